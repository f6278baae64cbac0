/- Layer 11: what was sent, and how often it came; comes. -/
import Derived.Test.YthigkmoilfdciaaBuNear
import Derived.Test.YthigkmoilfdciaaBuRfK
namespace Go.Proofs.Ythigkmoilfdciaa
open Go.RowKit
set_option linter.unusedVariables false
set_option linter.unusedSimpArgs false
attribute [local go_sem] Later.cell Later.frozen setCell_twice
structure Snt where
  p : Pc
  f : Fa
  came : Nat
  wrong : Nat
abbrev sntF (x : Snt) : List Value := [.int .i64 x.p.p.s, .bool x.p.p.up, .slice x.p.A x.p.p.b.length x.p.c, .bool x.f.lost, .bool x.f.twice, .int .u8 (x.f.wait : Int), .int .u8 (x.f.again : Int), .int .u16 (x.f.at_ : Int), .int .u16 (x.f.turns : Int), .int .i64 (x.came : Int), .int .i64 (x.wrong : Int)]
theorem sntF_one : ∀ a : Snt, ∀ u ∈ sntF a, u.oneCell' = true := fun x u hu => by
  simp only [sntF, List.mem_cons, List.not_mem_nil, or_false] at hu
  rcases hu with rfl | rfl | rfl | rfl | rfl | rfl | rfl | rfl | rfl | rfl | rfl <;> rfl
theorem info_sent : (Try.prog.info? 56).map (fun i => (i.zero, i.size, i.bytes)) = some (some (.agg #[.int .i64 0, .bool false, .slice none 0 0, .bool false, .bool false, .int .u8 0, .int .u8 0, .int .u16 0, .int .u16 0, .int .i64 0, .int .i64 0]), 11, 64) := by kernel_rfl
theorem size_sent : (Try.prog.info? 56).map (·.size) = some 11 := by kernel_rfl
/-- how often it comes at most -/
def Fa.most (f : Fa) : Nat := if f.twice = true then 2 else 1
/-- one cell more of it is written -/
def CameP (w : World) (g o : Nat) (v : Int) (e : Ending) (w' : World) : Prop :=
  e = .returned (.bool true) ∧ ∃ w1, Below w.heap.size w w1 ∧ w' = w1.setCell ⟨g, o, none⟩ (.int .i64 v)
set_option maxRecDepth 100000 in
set_option maxHeartbeats 1000000 in
theorem comes_same (g o c : Nat) (s : Int) (up : Bool) (A A' : Option Addr) (l : List Nat) (n m m' : Nat) (twice : Bool) (came wrong : Nat) (A0 : Option Addr) (n0 c0 : Nat) (w : World)
    (hm : l.length = n) (hs : Sq byw w w.heap.size A l) (hs' : Sq byw w w.heap.size A' l) (hn : n ≤ 1000) (hu : ∀ x ∈ l, x < 256)
    (d0 : w.cell? ⟨g, o, none⟩ = some (.int .i64 s)) (d1 : w.cell? ⟨g, o + 1, none⟩ = some (.bool up)) (d2 : w.cell? ⟨g, o + 2, none⟩ = some (.slice A n m)) (d3 : w.cell? ⟨g, o + 3, none⟩ = some (.bool false)) (d4 : w.cell? ⟨g, o + 4, none⟩ = some (.bool twice)) (d9 : w.cell? ⟨g, o + 9, none⟩ = some (.int .i64 (came : Int))) (d10 : w.cell? ⟨g, o + 10, none⟩ = some (.int .i64 (wrong : Int))) (fz : w.frozen? ⟨g, o + 9, none⟩ = false) (hc : 1 ≤ c) (hcw : came + wrong < if twice = true then 2 else 1) :
    Calls Try.prog 20 #[.slice (some ⟨g, o, none⟩) 1 c, .agg (pmV s up A' n m').toArray, .slice A0 n0 c0] w (CameP w g (o + 9) ((came + 1 : Nat) : Int)) := by
  have hg : g < w.heap.size := World.block_lt_of_cell? w _ d0
  have HM := Lib.hid hm
  have HS := Lib.hid hs
  have HS' := Lib.hid hs'
  obtain ⟨M, hM⟩ : ∃ M, (if twice = true then 2 else 1) = M := ⟨_, rfl⟩
  rw [hM] at hcw
  have HMM := Lib.hid hM
  clear hm hs hs' hM
  go_enter Try.func20, Try.ntmps20
  go_upto_region 1 with fail
  obtain ⟨w0, hw0⟩ : ∃ w_q_, w_q_ = w.alloc (.cells (pmV s up A' n m').toArray 36) := ⟨_, rfl⟩
  rw [← hw0]
  obtain ⟨gP, hgP⟩ : ∃ gP, w.heap.size = gP := ⟨_, rfl⟩
  have b0 : Below w.heap.size w w0 := by rw [hw0]; exact bel_alloc (Below.refl _ _) _
  have rp : RowAt w0 gP 36 (pmV s up A' n m') := by rw [hw0, ← hgP]; exact RowAt.new _ _ _
  rw [hgP]
  have C : Hid (∀ W, Below w0.heap.size w0 W → W.cell? ⟨g, o, none⟩ = some (.int .i64 s) ∧ W.cell? ⟨g, o + 1, none⟩ = some (.bool up) ∧ W.cell? ⟨g, o + 2, none⟩ = some (.slice A n m) ∧ W.cell? ⟨g, o + 3, none⟩ = some (.bool false) ∧ W.cell? ⟨g, o + 4, none⟩ = some (.bool twice) ∧ W.cell? ⟨g, o + 9, none⟩ = some (.int .i64 (came : Int)) ∧ W.cell? ⟨g, o + 10, none⟩ = some (.int .i64 (wrong : Int)) ∧ W.frozen? ⟨g, o + 9, none⟩ = false ∧ W.cell? ⟨gP, 0, none⟩ = some (.int .i64 s) ∧ W.cell? ⟨gP, 1, none⟩ = some (.bool up) ∧ W.cell? ⟨gP, 2, none⟩ = some (.slice A' n m') ∧ g < W.heap.size) := Lib.hid (fun W hW => by
    have k : Below w.heap.size w W := b0.trans (hW.mono b0.size)
    have r := rp.to hW
    exact ⟨(k.cell (p := ⟨g, o, none⟩) hg).trans d0, (k.cell (p := ⟨g, o + 1, none⟩) hg).trans d1, (k.cell (p := ⟨g, o + 2, none⟩) hg).trans d2, (k.cell (p := ⟨g, o + 3, none⟩) hg).trans d3, (k.cell (p := ⟨g, o + 4, none⟩) hg).trans d4, (k.cell (p := ⟨g, o + 9, none⟩) hg).trans d9, (k.cell (p := ⟨g, o + 10, none⟩) hg).trans d10, (k.frozen (p := ⟨g, o + 9, none⟩) hg).trans fz, r.cells 0, r.cells 1, r.cells 2, Nat.lt_of_lt_of_le hg k.size⟩)
  have B0 := Lib.hid b0
  clear hw0 b0 rp d0 d1 d2 d3 d4 d9 d10 fz hgP
  have h1c : (1 : Int) ≤ (c : Int) := by omega
  go_wp2
  go_loopw [14] (fun i wr => i = .int .i64 0 ∧ wr = w0) (fun _ _ => 0)
  case atStart => exact ⟨rfl, rfl⟩
  case round =>
    rename World => wr
    obtain ⟨rfl, rfl⟩ := hrel
    obtain ⟨e0, e1, e2, e3, e4, e9, e10, ef, p0, p1, p2, hgl⟩ := C.out wr (Below.refl _ _)
    go_upto_region 5 with fail
    go_quiet (fail)
    obtain ⟨wy, hwy⟩ : ∃ wy, wr.drewN nq = wy := ⟨_, rfl⟩
    try rw [hwy]
    have hby : Below wr.heap.size wr wy := by rw [← hwy]; exact bel_drewN (Below.refl _ _) _
    clear hwy e0 e1 e2 e3 e4 e9 e10 ef p0 p1 p2 hgl
    obtain ⟨e0, e1, e2, e3, e4, e9, e10, ef, p0, p1, p2, hgl⟩ := C.out wy hby
    have HBY := Lib.hid hby
    have SA : Sq byw wy wy.heap.size A l := (HS.out.below (B0.out.trans (hby.mono B0.out.size))).more (B0.out.trans (hby.mono B0.out.size)).size
    have SB : Sq byw wy wy.heap.size A' l := (HS'.out.below (B0.out.trans (hby.mono B0.out.size))).more (B0.out.trans (hby.mono B0.out.size)).size
    have HSM : Hid (∀ q : Nat, Calls Try.prog 21 #[.slice A n m, .slice A' n m'] (wy.drewN q) fun e w' => e = .returned (.bool true) ∧ w' = wy.drewN q) := Lib.hid (fun q => (same_by A A' l l m m' n n true _ HM.out HM.out ((SA.below (bel_drewN (Below.refl _ _) _)).more (by simp)) ((SB.below (bel_drewN (Below.refl _ _) _)).more (by simp)) hu hu (by simp)).mono (fun _ _ h => ⟨h.1, h.2.symm⟩))
    clear SA SB hby
    have hci : came ≤ 2 := by have := HMM.out; split at this <;> omega
    cases twice
    · obtain rfl : 1 = M := HMM.out
      have glt : decide ((came : Int) + (wrong : Int) < 1) = true := decide_eq_true (by omega)
      go_upto_region 9 with fail
      go_quiet ((go_at_call 21; exact Calls.quiet_of_same (HSM.out _)))
      obtain ⟨wz, hwz⟩ : ∃ wz, wy.drewN nq = wz := ⟨_, rfl⟩
      try rw [hwz]
      have hbz : Below wr.heap.size wr wz := by rw [← hwz]; exact bel_drewN HBY.out _
      clear hwz e0 e1 e2 e3 e4 e9 e10 ef p0 p1 p2 hgl glt
      obtain ⟨e0, e1, e2, e3, e4, e9, e10, ef, p0, p1, p2, hgl⟩ := C.out wz hbz
      have HBZ := Lib.hid hbz
      clear hbz e0 e1 e2 e3 e4 e10 p0 p1 p2
      go_wp2
      go_ret
      refine ⟨rfl, wz, B0.out.trans (HBZ.out.mono B0.out.size), ?_⟩
      first | rfl | (have : ((came + 1 : Nat) : Int) = (came : Int) + 1 := by omega
                     rw [this])
    · obtain rfl : 2 = M := HMM.out
      have glt : decide ((came : Int) + (wrong : Int) < 2) = true := decide_eq_true (by omega)
      go_upto_region 9 with fail
      go_quiet ((go_at_call 21; exact Calls.quiet_of_same (HSM.out _)))
      obtain ⟨wz, hwz⟩ : ∃ wz, wy.drewN nq = wz := ⟨_, rfl⟩
      try rw [hwz]
      have hbz : Below wr.heap.size wr wz := by rw [← hwz]; exact bel_drewN HBY.out _
      clear hwz e0 e1 e2 e3 e4 e9 e10 ef p0 p1 p2 hgl glt
      obtain ⟨e0, e1, e2, e3, e4, e9, e10, ef, p0, p1, p2, hgl⟩ := C.out wz hbz
      have HBZ := Lib.hid hbz
      clear hbz e0 e1 e2 e3 e4 e10 p0 p1 p2
      go_wp2
      go_ret
      refine ⟨rfl, wz, B0.out.trans (HBZ.out.mono B0.out.size), ?_⟩
      first | rfl | (have : ((came + 1 : Nat) : Int) = (came : Int) + 1 := by omega
                     rw [this])
set_option maxRecDepth 100000 in
set_option maxHeartbeats 2000000 in
theorem comes_wrong (g o c : Nat) (ns : Nat) (up : Bool) (A A' : Option Addr) (l l' : List Nat) (n m m' : Nat) (twice : Bool) (came fq : Nat) (br orr n0 c0 : Nat) (w : World)
    (hm : l.length = n) (hm' : l'.length = n) (hs : Sq byw w w.heap.size A l) (hs' : Sq byw w w.heap.size A' l') (hn : n ≤ 300) (hu : ∀ x ∈ l, x < 256) (hu' : ∀ x ∈ l', x < 256) (hne : l ≠ l')
    (d0 : w.cell? ⟨g, o, none⟩ = some (.int .i64 (ns : Int))) (d1 : w.cell? ⟨g, o + 1, none⟩ = some (.bool up)) (d2 : w.cell? ⟨g, o + 2, none⟩ = some (.slice A n m)) (d3 : w.cell? ⟨g, o + 3, none⟩ = some (.bool false)) (d4 : w.cell? ⟨g, o + 4, none⟩ = some (.bool twice)) (d9 : w.cell? ⟨g, o + 9, none⟩ = some (.int .i64 (came : Int))) (d10 : w.cell? ⟨g, o + 10, none⟩ = some (.int .i64 0)) (fz : w.frozen? ⟨g, o + 10, none⟩ = false) (hc : 1 ≤ c) (hcw : came < if twice = true then 2 else 1)
    (hrt : w.cell? ⟨br, orr + ns, none⟩ = some (.bool true)) (hns : ns < n0) (hnr : ∀ k, k < 8 * n → bitAt l k ≠ bitAt l' k → fq ≤ k ∧ k < fq + 16) :
    Calls Try.prog 20 #[.slice (some ⟨g, o, none⟩) 1 c, .agg (pmV (ns : Int) up A' n m').toArray, .slice (some ⟨br, orr, none⟩) n0 c0] w (CameP w g (o + 10) 1) := by
  have hg : g < w.heap.size := World.block_lt_of_cell? w _ d0
  have hbrl : br < w.heap.size := World.block_lt_of_cell? w _ hrt
  have HM := Lib.hid hm
  have HM' := Lib.hid hm'
  have HS := Lib.hid hs
  have HS' := Lib.hid hs'
  have HNE := Lib.hid hne
  have HNR := Lib.hid hnr
  obtain ⟨M, hM⟩ : ∃ M, (if twice = true then 2 else 1) = M := ⟨_, rfl⟩
  rw [hM] at hcw
  have HMM := Lib.hid hM
  clear hm hm' hs hs' hM hne hnr
  go_enter Try.func20, Try.ntmps20
  go_upto_region 1 with fail
  obtain ⟨w0, hw0⟩ : ∃ w_q_, w_q_ = w.alloc (.cells (pmV (ns : Int) up A' n m').toArray 36) := ⟨_, rfl⟩
  rw [← hw0]
  obtain ⟨gP, hgP⟩ : ∃ gP, w.heap.size = gP := ⟨_, rfl⟩
  have b0 : Below w.heap.size w w0 := by rw [hw0]; exact bel_alloc (Below.refl _ _) _
  have rp : RowAt w0 gP 36 (pmV (ns : Int) up A' n m') := by rw [hw0, ← hgP]; exact RowAt.new _ _ _
  rw [hgP]
  have C : Hid (∀ W, Below w0.heap.size w0 W → W.cell? ⟨g, o, none⟩ = some (.int .i64 (ns : Int)) ∧ W.cell? ⟨g, o + 1, none⟩ = some (.bool up) ∧ W.cell? ⟨g, o + 2, none⟩ = some (.slice A n m) ∧ W.cell? ⟨g, o + 3, none⟩ = some (.bool false) ∧ W.cell? ⟨g, o + 4, none⟩ = some (.bool twice) ∧ W.cell? ⟨g, o + 9, none⟩ = some (.int .i64 (came : Int)) ∧ W.cell? ⟨g, o + 10, none⟩ = some (.int .i64 0) ∧ W.frozen? ⟨g, o + 10, none⟩ = false ∧ W.cell? ⟨gP, 0, none⟩ = some (.int .i64 (ns : Int)) ∧ W.cell? ⟨gP, 1, none⟩ = some (.bool up) ∧ W.cell? ⟨gP, 2, none⟩ = some (.slice A' n m') ∧ g < W.heap.size ∧ W.cell? ⟨br, orr + ns, none⟩ = some (.bool true) ∧ br < W.heap.size) := Lib.hid (fun W hW => by
    have k : Below w.heap.size w W := b0.trans (hW.mono b0.size)
    have r := rp.to hW
    exact ⟨(k.cell (p := ⟨g, o, none⟩) hg).trans d0, (k.cell (p := ⟨g, o + 1, none⟩) hg).trans d1, (k.cell (p := ⟨g, o + 2, none⟩) hg).trans d2, (k.cell (p := ⟨g, o + 3, none⟩) hg).trans d3, (k.cell (p := ⟨g, o + 4, none⟩) hg).trans d4, (k.cell (p := ⟨g, o + 9, none⟩) hg).trans d9, (k.cell (p := ⟨g, o + 10, none⟩) hg).trans d10, (k.frozen (p := ⟨g, o + 10, none⟩) hg).trans fz, r.cells 0, r.cells 1, r.cells 2, Nat.lt_of_lt_of_le hg k.size, (k.cell (p := ⟨br, orr + ns, none⟩) hbrl).trans hrt, Nat.lt_of_lt_of_le hbrl k.size⟩)
  have B0 := Lib.hid b0
  clear hw0 b0 rp d0 d1 d2 d3 d4 d9 d10 fz hgP hrt
  have h1c : (1 : Int) ≤ (c : Int) := by omega
  have hnsI : (ns : Int) < (n0 : Int) := by omega
  have hns0 : (0 : Int) ≤ (ns : Int) := by omega
  have HSM : Hid (∀ (W : World) (q : Nat), Below w0.heap.size w0 W → Calls Try.prog 21 #[.slice A n m, .slice A' n m'] (W.drewN q) fun e w' => e = .returned (.bool false) ∧ w' = W.drewN q) := Lib.hid (fun W q hW => by
    have k : Below w.heap.size w W := B0.out.trans (hW.mono B0.out.size)
    have SA : Sq byw W W.heap.size A l := (HS.out.below k).more k.size
    have SB : Sq byw W W.heap.size A' l' := (HS'.out.below k).more k.size
    exact (same_by A A' l l' m m' n n false _ HM.out HM'.out ((SA.below (bel_drewN (Below.refl _ _) _)).more (by simp)) ((SB.below (bel_drewN (Below.refl _ _) _)).more (by simp)) hu hu' (by simp [HNE.out])).mono (fun _ _ h => ⟨h.1, h.2.symm⟩))
  go_wp2
  go_loopw [14] (fun i wr => ∃ k : Nat, k ≤ 1 ∧ i = .int .i64 (k : Int) ∧ Hid (Below w0.heap.size w0 wr)) (fun i _ => 1 - (intOf i).toNat)
  case atStart => exact ⟨0, by omega, rfl, Lib.hid (Below.refl _ _)⟩
  case round =>
    rename World => wr
    obtain ⟨k, hk, rfl, BW⟩ := hrel
    by_cases hk0 : k = 0
    · subst hk0
      obtain ⟨e0, e1, e2, e3, e4, e9, e10, ef, p0, p1, p2, hgl, q0, hbl⟩ := C.out wr BW.out
      go_upto_region 5 with fail
      go_quiet (fail)
      obtain ⟨wy, hwy⟩ : ∃ wy, wr.drewN nq = wy := ⟨_, rfl⟩
      try rw [hwy]
      have hby : Below w0.heap.size w0 wy := by rw [← hwy]; exact bel_drewN BW.out _
      clear hwy e0 e1 e2 e3 e4 e9 e10 ef p0 p1 p2 hgl q0 hbl
      obtain ⟨e0, e1, e2, e3, e4, e9, e10, ef, p0, p1, p2, hgl, q0, hbl⟩ := C.out wy hby
      have HBY := Lib.hid hby
      clear hby
      cases twice
      · obtain rfl : 1 = M := HMM.out
        have glt : decide ((came : Int) < 1) = true := decide_eq_true (by omega)
        go_upto_region 9 with fail
        go_quiet ((go_at_call 21; exact Calls.quiet_of_same (HSM.out wy _ HBY.out)))
        obtain ⟨wz, hwz⟩ : ∃ wz, wy.drewN nq = wz := ⟨_, rfl⟩
        try rw [hwz]
        have HBZ : Hid (Below w0.heap.size w0 wz) := Lib.hid (by rw [← hwz]; exact bel_drewN HBY.out _)
        clear hwz e0 e1 e2 e3 e4 e9 e10 ef p0 p1 p2 hgl glt q0 hbl
        go_wp2
        go_roundw
        case rel => exact ⟨1, by omega, by go_num, HBZ⟩
        case measure => simp [intOf]
      · obtain rfl : 2 = M := HMM.out
        have glt : decide ((came : Int) < 2) = true := decide_eq_true (by omega)
        go_upto_region 9 with fail
        go_quiet ((go_at_call 21; exact Calls.quiet_of_same (HSM.out wy _ HBY.out)))
        obtain ⟨wz, hwz⟩ : ∃ wz, wy.drewN nq = wz := ⟨_, rfl⟩
        try rw [hwz]
        have HBZ : Hid (Below w0.heap.size w0 wz) := Lib.hid (by rw [← hwz]; exact bel_drewN HBY.out _)
        clear hwz e0 e1 e2 e3 e4 e9 e10 ef p0 p1 p2 hgl glt q0 hbl
        go_wp2
        go_roundw
        case rel => exact ⟨1, by omega, by go_num, HBZ⟩
        case measure => simp [intOf]
    · obtain rfl : k = 1 := by omega
      go_wp2
      go_loopw [81] (fun i wx => i = .int .i64 0 ∧ wx = wr) (fun _ _ => 0)
      case atStart => exact ⟨rfl, rfl⟩
      case round =>
        rename World => wx
        obtain ⟨rfl, rfl⟩ := hrel
        obtain ⟨e0, e1, e2, e3, e4, e9, e10, ef, p0, p1, p2, hgl, q0, hbl⟩ := C.out wx BW.out
        go_upto_region 17 with fail
        have kn : Hid (Calls Try.prog 29 #[.slice A n m, .slice A' n m'] wx.drew fun e w' => e = .returned (.bool true) ∧ Below wx.drew.heap.size wx.drew w') := Lib.hid (by
          have k : Below w.heap.size w wx := B0.out.trans (BW.out.mono B0.out.size)
          have SA : Sq byw wx wx.heap.size A l := (HS.out.below k).more k.size
          have SB : Sq byw wx wx.heap.size A' l' := (HS'.out.below k).more k.size
          exact near_any l l' A A' n m m' fq wx.drew HM.out HM'.out SA SB hu hu' hn HNR.out)
        refine wp_region_held_drew (S := (fun w' => w'.cell? ⟨g, o, none⟩ = some (.int .i64 (ns : Int)) ∧ w'.cell? ⟨g, o + 1, none⟩ = some (.bool up) ∧ w'.cell? ⟨g, o + 2, none⟩ = some (.slice A n m) ∧ w'.cell? ⟨g, o + 3, none⟩ = some (.bool false) ∧ w'.cell? ⟨g, o + 10, none⟩ = some (.int .i64 0) ∧ w'.cell? ⟨gP, 0, none⟩ = some (.int .i64 (ns : Int)) ∧ w'.cell? ⟨gP, 1, none⟩ = some (.bool up) ∧ w'.cell? ⟨gP, 2, none⟩ = some (.slice A' n m') ∧ w'.cell? ⟨br, orr + ns, none⟩ = some (.bool true))) (by kernel_rfl) ?_ (fun hHeld => ?_)
        · exact ⟨e0, e1, e2, e3, e10, p0, p1, p2, q0⟩
        refine takeD (i := 0) (oi := _) (v := ?vv1) (d := some 87) rfl (by kernel_rfl) (by kernel_rfl) (by kernel_rfl) (by kernel_rfl) (fun _ _ _ h => h) (Or.inl ⟨by kernel_rfl, ?_⟩) (by assumption) ?_
        rotate_left 1
        · intro W_ hSw; (try dsimp only at hSw); go_simp; (first | done | with_reducible rfl)
        try simp only [Act.put, List.setIfInBounds_toArray, List.set_cons_zero, List.set_cons_succ]
        refine takeD (i := 1) (oi := _) (v := ?vv2) (d := some 88) rfl (by kernel_rfl) (by kernel_rfl) (by kernel_rfl) (by kernel_rfl) (fun _ _ _ h => h) (Or.inl ⟨by kernel_rfl, ?_⟩) (by assumption) ?_
        rotate_left 1
        · intro W_ hSw; (try dsimp only at hSw); go_simp; (first | done | with_reducible rfl)
        try simp only [Act.put, List.setIfInBounds_toArray, List.set_cons_zero, List.set_cons_succ]
        refine takeD (i := 2) (oi := _) (v := ?vv3) (d := some 89) rfl (by kernel_rfl) (by kernel_rfl) (by kernel_rfl) (by kernel_rfl) (fun _ _ _ h => h) (Or.inl ⟨by kernel_rfl, ?_⟩) (by assumption) ?_
        rotate_left 1
        · intro W_ hSw; (try dsimp only at hSw); go_simp; (first | done | with_reducible rfl)
        try simp only [Act.put, List.setIfInBounds_toArray, List.set_cons_zero, List.set_cons_succ]
        refine takeD (i := 3) (oi := _) (v := ?vv4) (d := some 90) rfl (by kernel_rfl) (by kernel_rfl) (by kernel_rfl) (by kernel_rfl) (fun _ _ _ h => h) (Or.inl ⟨by kernel_rfl, ?_⟩) (by assumption) ?_
        rotate_left 1
        · intro W_ hSw; (try dsimp only at hSw); go_simp; (first | done | with_reducible rfl)
        try simp only [Act.put, List.setIfInBounds_toArray, List.set_cons_zero, List.set_cons_succ]
        refine takeD (i := 4) (oi := _) (v := ?vv5) (d := some 91) rfl (by kernel_rfl) (by kernel_rfl) (by kernel_rfl) (by kernel_rfl) (fun _ _ _ h => h) (Or.inl ⟨by kernel_rfl, ?_⟩) (by assumption) ?_
        rotate_left 1
        · intro W_ hSw; (try dsimp only at hSw); go_simp; (first | done | with_reducible rfl)
        try simp only [Act.put, List.setIfInBounds_toArray, List.set_cons_zero, List.set_cons_succ]
        refine takeD (i := 5) (oi := _) (v := ?vv6) (d := some 92) rfl (by kernel_rfl) (by kernel_rfl) (by kernel_rfl) (by kernel_rfl) (fun _ _ _ h => h) (Or.inl ⟨by kernel_rfl, ?_⟩) (by assumption) ?_
        rotate_left 1
        · intro W_ hSw; (try dsimp only at hSw); go_simp; (first | done | with_reducible rfl)
        try simp only [Act.put, List.setIfInBounds_toArray, List.set_cons_zero, List.set_cons_succ]
        refine takeD (i := 6) (oi := _) (v := ?vv7) (d := some 93) rfl (by kernel_rfl) (by kernel_rfl) (by kernel_rfl) (by kernel_rfl) (fun _ _ _ h => h) (Or.inl ⟨by kernel_rfl, ?_⟩) (by assumption) ?_
        rotate_left 1
        · intro W_ hSw; (try dsimp only at hSw); go_simp; (first | done | with_reducible rfl)
        try simp only [Act.put, List.setIfInBounds_toArray, List.set_cons_zero, List.set_cons_succ]
        refine takeD (i := 7) (oi := _) (v := ?vv8) (d := some 94) rfl (by kernel_rfl) (by kernel_rfl) (by kernel_rfl) (by kernel_rfl) (fun _ _ _ h => h) (Or.inl ⟨by kernel_rfl, ?_⟩) (by assumption) ?_
        rotate_left 1
        · intro W_ hSw; (try dsimp only at hSw); go_simp; (first | done | with_reducible rfl)
        try simp only [Act.put, List.setIfInBounds_toArray, List.set_cons_zero, List.set_cons_succ]
        refine takeD (i := 8) (oi := _) (v := ?vv9) (d := some 95) rfl (by kernel_rfl) (by kernel_rfl) (by kernel_rfl) (by kernel_rfl) (fun _ _ _ h => h) (Or.inl ⟨by kernel_rfl, ?_⟩) (by assumption) ?_
        rotate_left 1
        · intro W_ hSw; (try dsimp only at hSw); go_simp; (first | done | with_reducible rfl)
        try simp only [Act.put, List.setIfInBounds_toArray, List.set_cons_zero, List.set_cons_succ]
        refine takeD (i := 9) (oi := _) (v := ?vv10) (d := some 96) rfl (by kernel_rfl) (by kernel_rfl) (by kernel_rfl) (by kernel_rfl) (fun _ _ _ h => h) (Or.inl ⟨by kernel_rfl, ?_⟩) (by assumption) ?_
        rotate_left 1
        · intro W_ hSw; (try dsimp only at hSw); go_simp; (first | done | with_reducible rfl)
        try simp only [Act.put, List.setIfInBounds_toArray, List.set_cons_zero, List.set_cons_succ]
        refine takeD (i := 10) (oi := _) (v := ?vv11) (d := some 97) rfl (by kernel_rfl) (by kernel_rfl) (by kernel_rfl) (by kernel_rfl) (fun _ _ _ h => h) (Or.inl ⟨by kernel_rfl, ?_⟩) (by assumption) ?_
        rotate_left 1
        · intro W_ hSw; (try dsimp only at hSw); go_simp; (first | done | with_reducible rfl)
        try simp only [Act.put, List.setIfInBounds_toArray, List.set_cons_zero, List.set_cons_succ]
        refine takeD (i := 11) (oi := _) (v := ?vv12) (d := some 98) rfl (by kernel_rfl) (by kernel_rfl) (by kernel_rfl) (by kernel_rfl) (fun _ _ _ h => h) (Or.inl ⟨by kernel_rfl, ?_⟩) (by assumption) ?_
        rotate_left 1
        · intro W_ hSw; (try dsimp only at hSw); go_simp; (first | done | with_reducible rfl)
        try simp only [Act.put, List.setIfInBounds_toArray, List.set_cons_zero, List.set_cons_succ]
        refine takeD (i := 12) (oi := _) (v := ?vv13) (d := some 99) rfl (by kernel_rfl) (by kernel_rfl) (by kernel_rfl) (by kernel_rfl) (fun _ _ _ h => h) (Or.inl ⟨by kernel_rfl, ?_⟩) (by assumption) ?_
        rotate_left 1
        · intro W_ hSw; (try dsimp only at hSw); go_simp; (first | done | with_reducible rfl)
        try simp only [Act.put, List.setIfInBounds_toArray, List.set_cons_zero, List.set_cons_succ]
        refine takeD (i := 13) (oi := _) (v := ?vv14) (d := some 100) rfl (by kernel_rfl) (by kernel_rfl) (by kernel_rfl) (by kernel_rfl) (fun _ _ _ h => h) (Or.inl ⟨by kernel_rfl, ?_⟩) (by assumption) ?_
        rotate_left 1
        · intro W_ hSw; (try dsimp only at hSw); go_simp; (first | done | with_reducible rfl)
        try simp only [Act.put, List.setIfInBounds_toArray, List.set_cons_zero, List.set_cons_succ]
        refine takeD (i := 14) (oi := _) (v := ?vv15) (d := some 101) rfl (by kernel_rfl) (by kernel_rfl) (by kernel_rfl) (by kernel_rfl) (fun _ _ _ h => h) (Or.inl ⟨by kernel_rfl, ?_⟩) (by assumption) ?_
        rotate_left 1
        · intro W_ hSw; (try dsimp only at hSw); go_simp; (first | done | with_reducible rfl)
        try simp only [Act.put, List.setIfInBounds_toArray, List.set_cons_zero, List.set_cons_succ]
        refine takeD (i := 15) (oi := _) (v := ?vv16) (d := some 102) rfl (by kernel_rfl) (by kernel_rfl) (by kernel_rfl) (by kernel_rfl) (fun _ _ _ h => h) (Or.inl ⟨by kernel_rfl, ?_⟩) (by assumption) ?_
        rotate_left 1
        · intro W_ hSw; (try dsimp only at hSw); go_simp; (first | done | with_reducible rfl)
        try simp only [Act.put, List.setIfInBounds_toArray, List.set_cons_zero, List.set_cons_succ]
        refine takeD (i := 16) (oi := _) (v := ?vv17) (d := some 103) rfl (by kernel_rfl) (by kernel_rfl) (by kernel_rfl) (by kernel_rfl) (fun _ _ _ h => h) (Or.inl ⟨by kernel_rfl, ?_⟩) (by assumption) ?_
        rotate_left 1
        · intro W_ hSw; (try dsimp only at hSw); go_simp; (first | done | with_reducible rfl)
        try simp only [Act.put, List.setIfInBounds_toArray, List.set_cons_zero, List.set_cons_succ]
        refine takeD (i := 17) (oi := _) (v := ?vv18) (d := some 104) rfl (by kernel_rfl) (by kernel_rfl) (by kernel_rfl) (by kernel_rfl) (fun _ _ _ h => h) (Or.inl ⟨by kernel_rfl, ?_⟩) (by assumption) ?_
        rotate_left 1
        · intro W_ hSw; (try dsimp only at hSw); go_simp; (first | done | with_reducible rfl)
        try simp only [Act.put, List.setIfInBounds_toArray, List.set_cons_zero, List.set_cons_succ]
        refine takeD (i := 18) (oi := _) (v := ?vv19) (d := some 105) rfl (by kernel_rfl) (by kernel_rfl) (by kernel_rfl) (by kernel_rfl) (fun _ _ _ h => h) (Or.inl ⟨by kernel_rfl, ?_⟩) (by assumption) ?_
        rotate_left 1
        · intro W_ hSw; (try dsimp only at hSw); go_simp; (first | done | with_reducible rfl)
        try simp only [Act.put, List.setIfInBounds_toArray, List.set_cons_zero, List.set_cons_succ]
        refine takeD (i := 19) (oi := _) (v := ?vv20) (d := some 106) rfl (by kernel_rfl) (by kernel_rfl) (by kernel_rfl) (by kernel_rfl) (fun _ _ _ h => h) (Or.inl ⟨by kernel_rfl, ?_⟩) (by assumption) ?_
        rotate_left 1
        · intro W_ hSw; (try dsimp only at hSw); go_simp; (first | done | with_reducible rfl)
        try simp only [Act.put, List.setIfInBounds_toArray, List.set_cons_zero, List.set_cons_succ]
        refine takeD (i := 20) (oi := _) (v := ?vv21) (d := some 107) rfl (by kernel_rfl) (by kernel_rfl) (by kernel_rfl) (by kernel_rfl) (fun _ _ _ h => h) (Or.inl ⟨by kernel_rfl, ?_⟩) (by assumption) ?_
        rotate_left 1
        · intro W_ hSw; (try dsimp only at hSw); go_simp; (first | done | with_reducible rfl)
        try simp only [Act.put, List.setIfInBounds_toArray, List.set_cons_zero, List.set_cons_succ]
        refine takeD (i := 21) (oi := _) (v := ?vv22) (d := some 108) rfl (by kernel_rfl) (by kernel_rfl) (by kernel_rfl) (by kernel_rfl) (fun _ _ _ h => h) (Or.inl ⟨by kernel_rfl, ?_⟩) (by assumption) ?_
        rotate_left 1
        · intro W_ hSw; (try dsimp only at hSw); go_simp; (first | done | with_reducible rfl)
        try simp only [Act.put, List.setIfInBounds_toArray, List.set_cons_zero, List.set_cons_succ]
        refine takeD (i := 22) (oi := _) (v := ?vv23) (d := some 109) rfl (by kernel_rfl) (by kernel_rfl) (by kernel_rfl) (by kernel_rfl) (fun _ _ _ h => h) (Or.inl ⟨by kernel_rfl, ?_⟩) (by assumption) ?_
        rotate_left 1
        · intro W_ hSw; (try dsimp only at hSw); go_simp; (first | done | with_reducible rfl)
        try simp only [Act.put, List.setIfInBounds_toArray, List.set_cons_zero, List.set_cons_succ]
        refine takeD (i := 23) (oi := _) (v := ?vv24) (d := some 110) rfl (by kernel_rfl) (by kernel_rfl) (by kernel_rfl) (by kernel_rfl) (fun _ _ _ h => h) (Or.inl ⟨by kernel_rfl, ?_⟩) (by assumption) ?_
        rotate_left 1
        · intro W_ hSw; (try dsimp only at hSw); go_simp; (first | done | with_reducible rfl)
        try simp only [Act.put, List.setIfInBounds_toArray, List.set_cons_zero, List.set_cons_succ]
        refine takeD (i := 24) (oi := _) (v := ?vv25) (d := some 111) rfl (by kernel_rfl) (by kernel_rfl) (by kernel_rfl) (by kernel_rfl) (fun _ _ _ h => h) (Or.inl ⟨by kernel_rfl, ?_⟩) (by assumption) ?_
        rotate_left 1
        · intro W_ hSw; (try dsimp only at hSw); go_simp; (first | done | with_reducible rfl)
        try simp only [Act.put, List.setIfInBounds_toArray, List.set_cons_zero, List.set_cons_succ]
        refine takeD (i := 25) (oi := _) (v := ?vv26) (d := some 112) rfl (by kernel_rfl) (by kernel_rfl) (by kernel_rfl) (by kernel_rfl) (fun _ _ _ h => h) (Or.inl ⟨by kernel_rfl, ?_⟩) (by assumption) ?_
        rotate_left 1
        · intro W_ hSw; (try dsimp only at hSw); go_simp; (first | done | with_reducible rfl)
        try simp only [Act.put, List.setIfInBounds_toArray, List.set_cons_zero, List.set_cons_succ]
        refine takeD (i := 26) (oi := _) (v := ?vv27) (d := some 113) rfl (by kernel_rfl) (by kernel_rfl) (by kernel_rfl) (by kernel_rfl) (fun _ _ _ h => h) (Or.inl ⟨by kernel_rfl, ?_⟩) (by assumption) ?_
        rotate_left 1
        · intro W_ hSw; (try dsimp only at hSw); go_simp; (first | done | with_reducible rfl)
        try simp only [Act.put, List.setIfInBounds_toArray, List.set_cons_zero, List.set_cons_succ]
        refine takeD (i := 27) (oi := _) (v := ?vv28) (d := some 114) rfl (by kernel_rfl) (by kernel_rfl) (by kernel_rfl) (by kernel_rfl) (fun _ _ _ h => h) (Or.inl ⟨by kernel_rfl, ?_⟩) (by assumption) ?_
        rotate_left 1
        · intro W_ hSw; (try dsimp only at hSw); go_simp; (first | done | with_reducible rfl)
        try simp only [Act.put, List.setIfInBounds_toArray, List.set_cons_zero, List.set_cons_succ]
        refine takeD (i := 28) (oi := _) (v := ?vv29) (d := some 115) rfl (by kernel_rfl) (by kernel_rfl) (by kernel_rfl) (by kernel_rfl) (fun _ _ _ h => h) (Or.inl ⟨by kernel_rfl, ?_⟩) (by assumption) ?_
        rotate_left 1
        · intro W_ hSw; (try dsimp only at hSw); go_simp; (first | done | with_reducible rfl)
        try simp only [Act.put, List.setIfInBounds_toArray, List.set_cons_zero, List.set_cons_succ]
        refine takeD (i := 29) (oi := _) (v := ?vv30) (d := some 116) rfl (by kernel_rfl) (by kernel_rfl) (by kernel_rfl) (by kernel_rfl) (fun _ _ _ h => h) (Or.inl ⟨by kernel_rfl, ?_⟩) (by assumption) ?_
        rotate_left 1
        · intro W_ hSw; (try dsimp only at hSw); go_simp; (first | done | with_reducible rfl)
        try simp only [Act.put, List.setIfInBounds_toArray, List.set_cons_zero, List.set_cons_succ]
        refine takeD (i := 30) (oi := _) (v := ?vv31) (d := some 117) rfl (by kernel_rfl) (by kernel_rfl) (by kernel_rfl) (by kernel_rfl) (fun _ _ _ h => h) (Or.inl ⟨by kernel_rfl, ?_⟩) (by assumption) ?_
        rotate_left 1
        · intro W_ hSw; (try dsimp only at hSw); go_simp; (first | done | with_reducible rfl)
        try simp only [Act.put, List.setIfInBounds_toArray, List.set_cons_zero, List.set_cons_succ]
        refine takeD (i := 31) (oi := _) (v := ?vv32) (d := some 118) rfl (by kernel_rfl) (by kernel_rfl) (by kernel_rfl) (by kernel_rfl) (fun _ _ _ h => h) (Or.inl ⟨by kernel_rfl, ?_⟩) (by assumption) ?_
        rotate_left 1
        · intro W_ hSw; (try dsimp only at hSw); go_simp; (first | done | with_reducible rfl)
        try simp only [Act.put, List.setIfInBounds_toArray, List.set_cons_zero, List.set_cons_succ]
        refine takeD (i := 32) (oi := _) (v := ?vv33) (d := some 119) rfl (by kernel_rfl) (by kernel_rfl) (by kernel_rfl) (by kernel_rfl) (fun _ _ _ h => h) (Or.inl ⟨by kernel_rfl, ?_⟩) (by assumption) ?_
        rotate_left 1
        · intro W_ hSw; (try dsimp only at hSw); go_simp; (first | done | with_reducible rfl)
        try simp only [Act.put, List.setIfInBounds_toArray, List.set_cons_zero, List.set_cons_succ]
        refine takeD (i := 33) (oi := _) (v := ?vv34) (d := some 120) rfl (by kernel_rfl) (by kernel_rfl) (by kernel_rfl) (by kernel_rfl) (fun _ _ _ h => h) (Or.inl ⟨by kernel_rfl, ?_⟩) (by assumption) ?_
        rotate_left 1
        · intro W_ hSw; (try dsimp only at hSw); go_simp; (first | done | with_reducible rfl)
        try simp only [Act.put, List.setIfInBounds_toArray, List.set_cons_zero, List.set_cons_succ]
        refine takeD (i := 34) (oi := _) (v := ?vv35) (d := some 121) rfl (by kernel_rfl) (by kernel_rfl) (by kernel_rfl) (by kernel_rfl) (fun _ _ _ h => h) (Or.inl ⟨by kernel_rfl, ?_⟩) (by assumption) ?_
        rotate_left 1
        · intro W_ hSw; (try dsimp only at hSw); go_simp; (first | done | with_reducible rfl)
        try simp only [Act.put, List.setIfInBounds_toArray, List.set_cons_zero, List.set_cons_succ]
        refine takeD (i := 35) (oi := _) (v := ?vv36) (d := some 122) rfl (by kernel_rfl) (by kernel_rfl) (by kernel_rfl) (by kernel_rfl) (fun _ _ _ h => h) (Or.inl ⟨by kernel_rfl, ?_⟩) (by assumption) ?_
        rotate_left 1
        · intro W_ hSw; (try dsimp only at hSw); go_simp; (first | done | with_reducible rfl)
        try simp only [Act.put, List.setIfInBounds_toArray, List.set_cons_zero, List.set_cons_succ]
        refine takeD (i := 36) (oi := _) (v := ?vv37) (d := some 123) rfl (by kernel_rfl) (by kernel_rfl) (by kernel_rfl) (by kernel_rfl) (fun _ _ _ h => h) (Or.inl ⟨by kernel_rfl, ?_⟩) (by assumption) ?_
        rotate_left 1
        · intro W_ hSw; (try dsimp only at hSw); go_simp; (first | done | with_reducible rfl)
        try simp only [Act.put, List.setIfInBounds_toArray, List.set_cons_zero, List.set_cons_succ]
        refine takeD (i := 37) (oi := _) (v := ?vv38) (d := some 124) rfl (by kernel_rfl) (by kernel_rfl) (by kernel_rfl) (by kernel_rfl) (fun _ _ _ h => h) (Or.inl ⟨by kernel_rfl, ?_⟩) (by assumption) ?_
        rotate_left 1
        · intro W_ hSw; (try dsimp only at hSw); go_simp; (first | done | with_reducible rfl)
        try simp only [Act.put, List.setIfInBounds_toArray, List.set_cons_zero, List.set_cons_succ]
        refine takeD (i := 38) (oi := _) (v := ?vv39) (d := some 125) rfl (by kernel_rfl) (by kernel_rfl) (by kernel_rfl) (by kernel_rfl) (fun _ _ _ h => h) (Or.inl ⟨by kernel_rfl, ?_⟩) (by assumption) ?_
        rotate_left 1
        · intro W_ hSw; (try dsimp only at hSw); go_simp; (first | done | with_reducible rfl)
        try simp only [Act.put, List.setIfInBounds_toArray, List.set_cons_zero, List.set_cons_succ]
        refine takeD (i := 39) (oi := _) (v := ?vv40) (d := some 126) rfl (by kernel_rfl) (by kernel_rfl) (by kernel_rfl) (by kernel_rfl) (fun _ _ _ h => h) (Or.inl ⟨by kernel_rfl, ?_⟩) (by assumption) ?_
        rotate_left 1
        · intro W_ hSw; (try dsimp only at hSw); go_simp; (first | done | with_reducible rfl)
        try simp only [Act.put, List.setIfInBounds_toArray, List.set_cons_zero, List.set_cons_succ]
        refine takeD (i := 40) (oi := _) (v := ?vv41) (d := some 127) rfl (by kernel_rfl) (by kernel_rfl) (by kernel_rfl) (by kernel_rfl) (fun _ _ _ h => h) (Or.inl ⟨by kernel_rfl, ?_⟩) (by assumption) ?_
        rotate_left 1
        · intro W_ hSw; (try dsimp only at hSw); go_simp; (first | done | with_reducible rfl)
        try simp only [Act.put, List.setIfInBounds_toArray, List.set_cons_zero, List.set_cons_succ]
        refine takeD (i := 41) (oi := _) (v := ?vv42) (d := some 128) rfl (by kernel_rfl) (by kernel_rfl) (by kernel_rfl) (by kernel_rfl) (fun _ _ _ h => h) (Or.inl ⟨by kernel_rfl, ?_⟩) (by assumption) ?_
        rotate_left 1
        · intro W_ hSw; (try dsimp only at hSw); go_simp; (first | done | with_reducible rfl)
        try simp only [Act.put, List.setIfInBounds_toArray, List.set_cons_zero, List.set_cons_succ]
        refine takeD (i := 42) (oi := _) (v := ?vv43) (d := some 129) rfl (by kernel_rfl) (by kernel_rfl) (by kernel_rfl) (by kernel_rfl) (fun _ _ _ h => h) (Or.inl ⟨by kernel_rfl, ?_⟩) (by assumption) ?_
        rotate_left 1
        · intro W_ hSw; (try dsimp only at hSw); go_simp; (first | done | with_reducible rfl)
        try simp only [Act.put, List.setIfInBounds_toArray, List.set_cons_zero, List.set_cons_succ]
        refine takeD (i := 43) (oi := _) (v := ?vv44) (d := some 130) rfl (by kernel_rfl) (by kernel_rfl) (by kernel_rfl) (by kernel_rfl) (fun _ _ _ h => h) (Or.inl ⟨by kernel_rfl, ?_⟩) (by assumption) ?_
        rotate_left 1
        · intro W_ hSw; (try dsimp only at hSw); go_simp; (first | done | with_reducible rfl)
        try simp only [Act.put, List.setIfInBounds_toArray, List.set_cons_zero, List.set_cons_succ]
        refine takeD (i := 44) (oi := _) (v := ?vv45) (d := some 131) rfl (by kernel_rfl) (by kernel_rfl) (by kernel_rfl) (by kernel_rfl) (fun _ _ _ h => h) (Or.inl ⟨by kernel_rfl, ?_⟩) (by assumption) ?_
        rotate_left 1
        · intro W_ hSw; (try dsimp only at hSw); go_simp; (first | done | with_reducible rfl)
        try simp only [Act.put, List.setIfInBounds_toArray, List.set_cons_zero, List.set_cons_succ]
        refine takeD (i := 45) (oi := _) (v := ?vv46) (d := some 132) rfl (by kernel_rfl) (by kernel_rfl) (by kernel_rfl) (by kernel_rfl) (fun _ _ _ h => h) (Or.inl ⟨by kernel_rfl, ?_⟩) (by assumption) ?_
        rotate_left 1
        · intro W_ hSw; (try dsimp only at hSw); go_simp; (first | done | with_reducible rfl)
        try simp only [Act.put, List.setIfInBounds_toArray, List.set_cons_zero, List.set_cons_succ]
        refine takeD (i := 46) (oi := _) (v := ?vv47) (d := some 133) rfl (by kernel_rfl) (by kernel_rfl) (by kernel_rfl) (by kernel_rfl) (fun _ _ _ h => h) (Or.inl ⟨by kernel_rfl, ?_⟩) (by assumption) ?_
        rotate_left 1
        · intro W_ hSw; (try dsimp only at hSw); go_simp; (first | done | with_reducible rfl)
        try simp only [Act.put, List.setIfInBounds_toArray, List.set_cons_zero, List.set_cons_succ]
        refine takeD (i := 47) (oi := _) (v := ?vv48) (d := some 134) rfl (by kernel_rfl) (by kernel_rfl) (by kernel_rfl) (by kernel_rfl) (fun _ _ _ h => h) (Or.inl ⟨by kernel_rfl, ?_⟩) (by assumption) ?_
        rotate_left 1
        · intro W_ hSw; (try dsimp only at hSw); go_simp; (first | done | with_reducible rfl)
        try simp only [Act.put, List.setIfInBounds_toArray, List.set_cons_zero, List.set_cons_succ]
        refine wpAnyH_ready (rs := [48]) (by kernel_rfl) (by simp) ?_
        refine AllReadyH.cons (o := _) rfl (fun K hK => ?_) AllReadyH.nil
        go_simp
        (go_at_call 29; (with_reducible refine (kn.out).mono ?_); rintro e_ w5 ⟨rfl, hb5⟩; have hx5 : Below w0.heap.size w0 w5 := BW.out.trans (((Below.refl _ _).drew.trans hb5).mono BW.out.size))
        go_wp2_with fail
        refine hK.out _ _ ?_ (fun hHeld => ?_)
        · exact (have h := C.out w5 hx5; ⟨h.1, h.2.1, h.2.2.1, h.2.2.2.1, h.2.2.2.2.2.2.1, h.2.2.2.2.2.2.2.2.1, h.2.2.2.2.2.2.2.2.2.1, h.2.2.2.2.2.2.2.2.2.2.1, h.2.2.2.2.2.2.2.2.2.2.2.2.1⟩)
        clear hK K
        try simp only [Act.put, List.setIfInBounds_toArray, List.set_cons_zero, List.set_cons_succ]
        refine takeD (i := 49) (oi := _) (v := ?vv49) (d := some 136) rfl (by kernel_rfl) (by kernel_rfl) (by kernel_rfl) (by kernel_rfl) (fun _ _ _ h => h) (Or.inl ⟨by kernel_rfl, ?_⟩) (by assumption) ?_
        rotate_left 1
        · intro W_ hSw; (try dsimp only at hSw); go_simp; (first | done | with_reducible rfl)
        try simp only [Act.put, List.setIfInBounds_toArray, List.set_cons_zero, List.set_cons_succ]
        refine wpAnyH_done (by kernel_rfl) ?_ _
        clear e0 e1 e2 e3 e4 e9 e10 ef p0 p1 p2 hgl q0 hbl hb5 hHeld
        obtain ⟨e0, e1, e2, e3, e4, e9, e10, ef, p0, p1, p2, hgl, q0, hbl⟩ := C.out w5 hx5
        have HX5 := Lib.hid hx5
        clear hx5 e0 e1 e2 e3 e4 e9 p0 p1 p2 q0 hbl kn
        go_wp2
        go_ret
        exact ⟨rfl, w5, B0.out.trans (HX5.out.mono B0.out.size), rfl⟩
end Go.Proofs.Ythigkmoilfdciaa
