/- Layer 11: the reference's Send. -/
import Derived.Test.YthigkmoilfdciaaBuRfK
import Derived.Test.YthigkmoilfdciaaBuRfT
namespace Go.Proofs.Ythigkmoilfdciaa
open Go.RowKit
set_option linter.unusedVariables false
set_option linter.unusedSimpArgs false
attribute [local go_sem] Later.cell Later.frozen setCell_twice
theorem own_sq_empty {α : Type} (f : α → Value) (w : World) (base : Nat) (e : TypeId) (n : Nat) (hn : n = w.heap.size) (hb : base ≤ n) : (w.alloc (.cells #[] e)).ownsRow base e 1 (.slice (some ⟨n, 0, none⟩) ([] : List α).length 0) ([] : List α).length (([] : List α).map f) := by
  subst hn
  exact ⟨by simp, .inr ⟨w.heap.size, 0, #[], rfl, hb, heap_alloc_new w _, Nat.le_refl _, by simp [maxLen], by simp, by simp⟩⟩
abbrev w4bus (w : World) (X P F : List Value) : World := (((w.alloc (.cells X.toArray 33)).alloc (.cells P.toArray 36)).alloc (.cells F.toArray 39)).alloc (.cells #[.slice none 0 0, .int .i64 0, .slice none 0 0] 33)
theorem in_bpf (w : World) (X P F : List Value) : RowAt (w4bus w X P F) w.heap.size 33 X ∧ RowAt (w4bus w X P F) (w.heap.size + 1) 36 P ∧ RowAt (w4bus w X P F) (w.heap.size + 1 + 1) 39 F ∧ RowAt (w4bus w X P F) (w.heap.size + 1 + 1 + 1) 33 (rbC none 0 0 0 none 0 0) ∧ Below w.heap.size w (w4bus w X P F) ∧ (w4bus w X P F).heap.size = w.heap.size + 4 :=
  ⟨(((RowAt.new w _ _).alloc _).alloc _).alloc _, ((RowAt.new' _ _ _ _ (by simp)).alloc _).alloc _, (RowAt.new' _ _ _ _ (by simp)).alloc _, RowAt.new' _ _ _ (rbC none 0 0 0 none 0 0) (by simp), bel_alloc (bel_alloc (bel_alloc (bel_alloc (Below.refl _ _) _) _) _) _, by simp [w4bus]⟩
/-- what Send hands back -/
def RSendP (w : World) (A0 : Option Addr) (c0 n0 : Nat) (T : Int) (b' : Bu) (Aw0 : Option Addr) (l0 : List Wy) (e : Ending) (w' : World) : Prop :=
  ∃ Aw nw cw l, e = .returned (.agg (rbC A0 n0 c0 T Aw nw cw).toArray) ∧ RBus w' A0 b' Aw nw cw l ∧ Below w.heap.size w w' ∧ Hid (∀ F : List Nat, (∀ x ∈ F, x < w.heap.size) → WOff F Aw0 l0 → WOff F Aw l)
set_option maxRecDepth 100000 in
set_option maxHeartbeats 4000000 in
theorem rsend_any (w : World) {A0 : Option Addr} {b : Bu} {Aw : Option Addr} {nw cw c0 : Nat} {l : List Wy} (h : RBus w A0 b Aw nw cw l) (hn : nw ≤ 90000) (ht : b.time ≤ 100000) (ns : Nat) (up : Bool) (by_ : List Nat) (XA : Option Addr) (m xc : Nat) (hm : by_.length = m) (hsq : Sq byw w w.heap.size XA by_) (hnl : XA = none → xc = 0) (hu : ∀ x ∈ by_, x < 256) (hs : ns < b.rtu.length) (hm1 : 1 ≤ m) (hm3 : m ≤ 300) (lost twice : Bool) (wait again at_ turns : Nat) (hwait : wait < 256) (hagain : again < 256) (hat : at_ < 65536) (htu : turns < 65536) :
    Calls Try.prog 15 #[.agg (rbC A0 b.rtu.length c0 (b.time : Int) Aw nw cw).toArray, .agg (pmV (ns : Int) up XA m xc).toArray, .agg (faV lost twice wait again at_ turns).toArray] w (RSendP w A0 c0 b.rtu.length (b.time : Int) (b.send ⟨(ns : Int), up, by_⟩ ⟨lost, twice, wait, again, at_, turns⟩) Aw l) := by
  obtain ⟨i0, hif, hz0, hz1, hz2⟩ := info_parts info_b8
  obtain ⟨iW, hifW, hw0_, hw1_, hw2_⟩ := info_parts info_way
  obtain ⟨n0, hn0⟩ : ∃ n, b.rtu.length = n := ⟨_, rfl⟩
  obtain ⟨B', hB'⟩ : ∃ B', b.send ⟨(ns : Int), up, by_⟩ ⟨lost, twice, wait, again, at_, turns⟩ = B' := ⟨_, rfl⟩
  have HB := Lib.hid h
  have HN0 := Lib.hid hn0
  have HBB := Lib.hid hB'
  have HM := Lib.hid hm
  have SQ := Lib.hid hsq
  have NL := Lib.hid hnl
  have HU := Lib.hid hu
  rw [hB']
  rw [hn0] at hs ⊢
  clear h hn0 hB' hm hsq hnl hu
  go_enter Try.func15, Try.ntmps15
  go_upto_region 1 with fail
  obtain ⟨w0, hw0⟩ : ∃ w0, w0 = w4bus w (rbC A0 n0 c0 (b.time : Int) Aw nw cw) (pmV (ns : Int) up XA m xc) (faV lost twice wait again at_ turns) := ⟨_, rfl⟩
  rw [show (((w.alloc (.cells (rbC A0 n0 c0 (b.time : Int) Aw nw cw).toArray 33)).alloc (.cells (pmV (ns : Int) up XA m xc).toArray 36)).alloc (.cells (faV lost twice wait again at_ turns).toArray 39)).alloc (.cells #[.slice none 0 0, .int .i64 0, .slice none 0 0] 33) = w0 from hw0.symm]
  obtain ⟨rx, rp, rf, rr, b0, z0⟩ := in_bpf w (rbC A0 n0 c0 (b.time : Int) Aw nw cw) (pmV (ns : Int) up XA m xc) (faV lost twice wait again at_ turns)
  rw [← hw0] at rx rp rf rr b0 z0
  obtain ⟨gP, hgP⟩ : ∃ g, w.heap.size + 1 = g := ⟨_, rfl⟩
  rw [hgP] at rp rf rr ⊢
  obtain ⟨gF, hgF⟩ : ∃ g, gP + 1 = g := ⟨_, rfl⟩
  rw [hgF] at rf rr ⊢
  obtain ⟨gR, hgR⟩ : ∃ g, gF + 1 = g := ⟨_, rfl⟩
  rw [hgR] at rr ⊢
  obtain ⟨gX, hgX⟩ : ∃ g, w.heap.size = g := ⟨_, rfl⟩
  rw [hgX] at rx ⊢
  have hb4 : gX + 4 ≤ w0.heap.size := by omega
  have hg1 : gX < gP ∧ gP < gF ∧ gF < gR ∧ gR < gX + 4 := by omega
  clear z0 hgP hgF hgR
  have HGX := Lib.hid hgX
  have RX := Lib.hid rx
  have RP := Lib.hid rp
  have RF := Lib.hid rf
  have RR := Lib.hid rr
  have B0 := Lib.hid b0
  clear hw0 rx rp rf rr b0 hgX
  have f0 : w0.cell? ⟨gF, 0, none⟩ = some (.bool lost) := RF.out.cells 0
  cases lost
  rotate_left
  · obtain rfl : b = B' := by rw [← HBB.out]; unfold Bu.send; rw [if_pos rfl]
    go_upto_region 2 with fail
    clear f0
    go_wp2_with (first | (refine wpList_load_var rfl 33 (.tmp 3) rfl gX rfl _ _ 3 RX.out Try.underlying33 rfl size_rbus rfl ?_) | (refine wpList_store_var rfl 33 (.tmp 6) (.tmp 11) rfl gR _ (rbC A0 n0 c0 (b.time : Int) Aw nw cw) 3 rfl rfl RR.out size_rbus rfl rfl (rbC_one _ _ _ _ _ _ _) ?_; intro w7 r7 k7; have R7 := Lib.hid r7; have K7 := Lib.hid k7; clear r7 k7))
    refine bodyPost_ret (results_cell_row rfl _ _ gR 33 _ (0, 0) _ rfl R7.out Try.underlying33 rfl (by rw [size_rbus]; rfl)) rfl ?_
    have B7 := K7.out.to B0.out (by have := HGX.out; omega)
    exact ⟨Aw, nw, cw, l, rfl, HB.out.to B7, B7, Lib.hid (fun F _ ho => ho)⟩
  have x2 : w0.cell? ⟨gX, 2, none⟩ = some (.slice Aw nw cw) := RX.out.cells 2
  have ltX : gX < w0.heap.size := by omega
  have hWR : Hid (Recs wyF 4 w0 w0.heap.size Aw l) := Lib.hid ((HB.out.ways.rc.below B0.out).more B0.out.size)
  have hWR2 : Hid (Recs wyF 4 (w0.alloc (.cells #[] 67)) w0.heap.size Aw l) := Lib.hid (hWR.out.alloc (Nat.le_refl _) _)
  go_upto_region 4 with (at_builtin; go_loud (refine wpList_append_recs (f := wyF) (s := 4) _ rfl (.tmp 12) (.tmp 14) 31 rfl (fun _ => rfl) (by decide) wyF_one (gX + 4) 67 iW _ 48 Try.underlying31 hifW hw0_ hw1_ hw2_ (by decide) rfl (.slice (some ⟨w0.heap.size, 0, none⟩) 0 0) [] rfl (own_recs_empty wyF w0 (gX + 4) 67 4 w0.heap.size rfl (by omega)) w0.heap.size Aw l cw nw HB.out.len rfl hWR2.out HB.out.nl (by simp; omega) (by simp; omega) ?_; intro A3 c3 w3 o3 g3 b3; have O3 := Lib.hid o3; have hb3 := b3; clear o3 g3 b3))
  have hlen3 : ([] ++ l : List Wy).length = nw := HB.out.len
  try rw [List.nil_append]
  try rw [HB.out.len]
  rw [List.nil_append, HB.out.len] at O3
  have hx0 : Below (gX + 4) w0 w3 := ((Below.refl (gX + 4) w0).alloc (by omega) _).trans hb3
  have hz3 : w0.heap.size ≤ w3.heap.size := hx0.size
  replace RX := Lib.hid (show RowAt w3 gX 33 (rbC A0 n0 c0 (b.time : Int) Aw nw cw) from (hx0.block _ (by omega)).trans RX.out)
  replace RP := Lib.hid (show RowAt w3 gP 36 (pmV (ns : Int) up XA m xc) from (hx0.block _ (by omega)).trans RP.out)
  replace RF := Lib.hid (show RowAt w3 gF 39 (faV false twice wait again at_ turns) from (hx0.block _ (by omega)).trans RF.out)
  replace RR := Lib.hid (show RowAt w3 gR 33 (rbC none 0 0 0 none 0 0) from (hx0.block _ (by omega)).trans RR.out)
  replace B0 := Lib.hid (B0.out.trans (hx0.mono (by have := HGX.out; omega)))
  clear hb3 hlen3 hx0 f0 x2 ltX hWR hWR2
  have SQ3 := Lib.hid ((SQ.out.below B0.out).more B0.out.size)
  have p0 : w3.cell? ⟨gP, 0, none⟩ = some (.int .i64 (ns : Int)) := RP.out.cells 0
  have p1 : w3.cell? ⟨gP, 1, none⟩ = some (.bool up) := RP.out.cells 1
  have p2 : w3.cell? ⟨gP, 2, none⟩ = some (.slice XA m xc) := RP.out.cells 2
  -- the parcel, in memory of its own
  go_cut [8] (fun x wx => ∃ (gQ : Nat) (A5 : Option Addr) (c5 : Nat), x = .pointer (some ⟨gQ, 0, none⟩) ∧ w3.heap.size ≤ gQ ∧ Hid (RowAt wx gQ 36 (pmV (ns : Int) up A5 m c5)) ∧ Hid (wx.ownsRow w3.heap.size 5 1 (.slice A5 m c5) m (by_.map byw)) ∧ Hid (Below w3.heap.size w3 wx))
  case first =>
    refine wp_region_held_drew (S := (fun w' => w'.cell? ⟨gP, 0, none⟩ = some (.int .i64 (ns : Int)) ∧ w'.cell? ⟨gP, 1, none⟩ = some (.bool up) ∧ w'.cell? ⟨gP, 2, none⟩ = some (.slice XA m xc))) (by kernel_rfl) ?_ (fun hHeld => ?_)
    · exact ⟨p0, p1, p2⟩
    refine takeD (i := 0) (oi := _) (v := ?vv1) (d := some 16) rfl (by kernel_rfl) (by kernel_rfl) (by kernel_rfl) (by kernel_rfl) (fun _ _ _ h => h) (Or.inl ⟨by kernel_rfl, ?_⟩) (by assumption) ?_
    rotate_left 1
    · intro W_ hSw; (try dsimp only at hSw); go_simp; (first | done | with_reducible rfl)
    try simp only [Act.put, List.setIfInBounds_toArray, List.set_cons_zero, List.set_cons_succ]
    refine takeD (i := 1) (oi := _) (v := ?vv2) (d := some 17) rfl (by kernel_rfl) (by kernel_rfl) (by kernel_rfl) (by kernel_rfl) (fun _ _ _ h => h) (Or.inl ⟨by kernel_rfl, ?_⟩) (by assumption) ?_
    rotate_left 1
    · intro W_ hSw; (try dsimp only at hSw); go_simp; (first | done | with_reducible rfl)
    try simp only [Act.put, List.setIfInBounds_toArray, List.set_cons_zero, List.set_cons_succ]
    refine takeD (i := 2) (oi := _) (v := ?vv3) (d := some 18) rfl (by kernel_rfl) (by kernel_rfl) (by kernel_rfl) (by kernel_rfl) (fun _ _ _ h => h) (Or.inl ⟨by kernel_rfl, ?_⟩) (by assumption) ?_
    rotate_left 1
    · intro W_ hSw; (try dsimp only at hSw); go_simp; (first | done | with_reducible rfl)
    try simp only [Act.put, List.setIfInBounds_toArray, List.set_cons_zero, List.set_cons_succ]
    refine takeD (i := 3) (oi := _) (v := ?vv4) (d := some 19) rfl (by kernel_rfl) (by kernel_rfl) (by kernel_rfl) (by kernel_rfl) (fun _ _ _ h => h) (Or.inl ⟨by kernel_rfl, ?_⟩) (by assumption) ?_
    rotate_left 1
    · intro W_ hSw; (try dsimp only at hSw); go_simp; (first | done | with_reducible rfl)
    try simp only [Act.put, List.setIfInBounds_toArray, List.set_cons_zero, List.set_cons_succ]
    refine takeD (i := 5) (oi := _) (v := ?vv5) (d := some 21) rfl (by kernel_rfl) (by kernel_rfl) (by kernel_rfl) (by kernel_rfl) (fun _ _ _ h => h) (Or.inl ⟨by kernel_rfl, ?_⟩) (by assumption) ?_
    rotate_left 1
    · intro W_ hSw; (try dsimp only at hSw); go_simp; (first | done | with_reducible rfl)
    try simp only [Act.put, List.setIfInBounds_toArray, List.set_cons_zero, List.set_cons_succ]
    refine takeD (i := 6) (oi := _) (v := ?vv6) (d := some 22) rfl (by kernel_rfl) (by kernel_rfl) (by kernel_rfl) (by kernel_rfl) (fun _ _ _ h => h) (Or.inl ⟨by kernel_rfl, ?_⟩) (by assumption) ?_
    rotate_left 1
    · intro W_ hSw; (try dsimp only at hSw); go_simp; (first | done | with_reducible rfl)
    try simp only [Act.put, List.setIfInBounds_toArray, List.set_cons_zero, List.set_cons_succ]
    refine wpAnyH_ready (rs := [4, 9]) (by kernel_rfl) (by simp) ?_
    refine AllReadyH.cons (o := _) rfl (fun K hK => ?_) (AllReadyH.cons (o := _) rfl (fun K hK => ?_) AllReadyH.nil)
    · go_simp
      obtain ⟨wa, hwa⟩ : ∃ q, q = (w3.alloc (.cells #[] 5)).drew := ⟨_, rfl⟩
      rw [← hwa]
      have hxa : Below w3.heap.size w3 wa := by rw [hwa]; exact (bel_alloc (Below.refl _ _) _).drew
      have Hwa := Lib.hid hwa
      clear hwa
      refine hK.out _ _ ?_ (fun hHeld => ?_)
      · exact ⟨(hxa.cell (p := ⟨gP, 0, none⟩) (by show gP < _; omega)).trans p0, (hxa.cell (p := ⟨gP, 1, none⟩) (by show gP < _; omega)).trans p1, (hxa.cell (p := ⟨gP, 2, none⟩) (by show gP < _; omega)).trans p2⟩
      clear hK K
      try simp only [Act.put, List.setIfInBounds_toArray, List.set_cons_zero, List.set_cons_succ]
      refine wpAnyH_ready (rs := [7, 9]) (by kernel_rfl) (by simp) ?_
      refine AllReadyH.cons (o := _) rfl (fun K hK => ?_) (AllReadyH.cons (o := _) rfl (fun K hK => ?_) AllReadyH.nil)
      · (refine step_append_sq (f := byw) _ (by rfl) (.tmp 20) (.tmp 22) 34 (by rfl) (fun _ => rfl) w3.heap.size 5 i0 _ _ Try.underlying34 hif hz0 rfl hz1 hz2 (by decide) (.slice (some ⟨w3.heap.size, 0, none⟩) 0 0) [] (by rfl) (by rw [Hwa.out]; exact own_sq_empty byw w3 w3.heap.size 5 w3.heap.size rfl (Nat.le_refl _)) w3.heap.size XA by_ xc m HM.out (by rfl) (SQ3.out.below hxa) NL.out (by simp; omega) hxa.size ?_)
        intro A5 c5 wb o5 g5 b5
        try rw [List.nil_append] at o5 ⊢
        try rw [HM.out] at o5 ⊢
        have hxb : Below w3.heap.size w3 wb := hxa.trans b5
        refine hK.out _ _ ?_ (fun hHeld => ?_)
        · exact ⟨(hxb.cell (p := ⟨gP, 0, none⟩) (by show gP < _; omega)).trans p0, (hxb.cell (p := ⟨gP, 1, none⟩) (by show gP < _; omega)).trans p1, (hxb.cell (p := ⟨gP, 2, none⟩) (by show gP < _; omega)).trans p2⟩
        clear hK K
        try simp only [Act.put, List.setIfInBounds_toArray, List.set_cons_zero, List.set_cons_succ]
        refine takeD (i := 8) (oi := _) (v := ?vv7) (d := some 24) rfl (by kernel_rfl) (by kernel_rfl) (by kernel_rfl) (by kernel_rfl) (fun _ _ _ h => h) (Or.inl ⟨by kernel_rfl, ?_⟩) (by assumption) ?_
        rotate_left 1
        · intro W_ hSw; (try dsimp only at hSw); go_simp; (first | done | with_reducible rfl)
        try simp only [Act.put, List.setIfInBounds_toArray, List.set_cons_zero, List.set_cons_succ]
        refine wpAnyH_ready (rs := [9]) (by kernel_rfl) (by simp) ?_
        refine AllReadyH.cons (o := _) rfl (fun K hK => ?_) AllReadyH.nil
        go_simp
        obtain ⟨wc, hwc⟩ : ∃ q, q = wb.alloc (.cells #[.int .i64 0, .bool false, .slice none 0 0] 36) := ⟨_, rfl⟩
        rw [← hwc]
        have hxc : Below w3.heap.size w3 wc := by rw [hwc]; exact bel_alloc hxb _
        have Hwc := Lib.hid hwc
        clear hwc
        refine hK.out _ _ ?_ (fun hHeld => ?_)
        · exact ⟨(hxc.cell (p := ⟨gP, 0, none⟩) (by show gP < _; omega)).trans p0, (hxc.cell (p := ⟨gP, 1, none⟩) (by show gP < _; omega)).trans p1, (hxc.cell (p := ⟨gP, 2, none⟩) (by show gP < _; omega)).trans p2⟩
        clear hK K
        try simp only [Act.put, List.setIfInBounds_toArray, List.set_cons_zero, List.set_cons_succ]
        have zq : w3.heap.size ≤ wb.heap.size := by first | exact hxb.size | exact hxa.size | exact Nat.le_refl _
        refine wpAnyH_ready (rs := [10]) (by kernel_rfl) (by simp) ?_
        refine AllReadyH.cons (o := _) rfl (fun K hK => ?_) AllReadyH.nil
        (refine step_store_var rfl 36 (.tmp 8) (.tmp 24) rfl wb.heap.size _ (pmV (ns : Int) up A5 m c5) 3 rfl rfl (by rw [Hwc.out]; exact RowAt.new wb _ [.int .i64 0, .bool false, .slice none 0 0]) size_pc rfl rfl (fun u hu => ?_) ?_)
        · simp only [pmV, List.mem_cons, List.not_mem_nil, or_false] at hu
          rcases hu with rfl | rfl | rfl <;> rfl
        intro w9 r9 k9
        go_simp
        have hx9 : Below w3.heap.size w3 w9 := k9.to hxc (by omega)
        refine hK.out _ _ ?_ (fun hHeld => ?_)
        · exact ⟨(hx9.cell (p := ⟨gP, 0, none⟩) (by show gP < _; omega)).trans p0, (hx9.cell (p := ⟨gP, 1, none⟩) (by show gP < _; omega)).trans p1, (hx9.cell (p := ⟨gP, 2, none⟩) (by show gP < _; omega)).trans p2⟩
        clear hK K
        try simp only [Act.put, List.setIfInBounds_toArray, List.set_cons_zero, List.set_cons_succ]
        refine wpAnyH_done (by kernel_rfl) ?_ _
        have O9 : Hid (w9.ownsRow w3.heap.size 5 1 (.slice A5 m c5) m (by_.map byw)) := Lib.hid (own_only_ne k9 (by rw [Hwc.out]; exact own_below o5 (bel_alloc (Below.refl _ _) _)) (fun p hp => by have := (own_at_s o5 p hp).2.1; omega))
        have R9 := Lib.hid r9
        have B9 := Lib.hid hx9
        clear r9 k9 hx9
        go_wp2
        go_meet
        case rel => exact ⟨wb.heap.size, A5, c5, rfl, by omega, R9, O9, B9⟩
      · go_simp
        obtain ⟨wb, hwb⟩ : ∃ q, q = wa.alloc (.cells #[.int .i64 0, .bool false, .slice none 0 0] 36) := ⟨_, rfl⟩
        rw [← hwb]
        have hxb : Below w3.heap.size w3 wb := by rw [hwb]; exact bel_alloc hxa _
        have Hwb := Lib.hid hwb
        clear hwb
        refine hK.out _ _ ?_ (fun hHeld => ?_)
        · exact ⟨(hxb.cell (p := ⟨gP, 0, none⟩) (by show gP < _; omega)).trans p0, (hxb.cell (p := ⟨gP, 1, none⟩) (by show gP < _; omega)).trans p1, (hxb.cell (p := ⟨gP, 2, none⟩) (by show gP < _; omega)).trans p2⟩
        clear hK K
        try simp only [Act.put, List.setIfInBounds_toArray, List.set_cons_zero, List.set_cons_succ]
        refine wpAnyH_ready (rs := [7]) (by kernel_rfl) (by simp) ?_
        refine AllReadyH.cons (o := _) rfl (fun K hK => ?_) AllReadyH.nil
        (refine step_append_sq (f := byw) _ (by rfl) (.tmp 20) (.tmp 22) 34 (by rfl) (fun _ => rfl) w3.heap.size 5 i0 _ _ Try.underlying34 hif hz0 rfl hz1 hz2 (by decide) (.slice (some ⟨w3.heap.size, 0, none⟩) 0 0) [] (by rfl) (by rw [Hwb.out]; refine own_below ?_ (bel_alloc (Below.refl _ _) _); rw [Hwa.out]; exact own_sq_empty byw w3 w3.heap.size 5 w3.heap.size rfl (Nat.le_refl _)) w3.heap.size XA by_ xc m HM.out (by rfl) (SQ3.out.below hxb) NL.out (by simp; omega) hxb.size ?_)
        intro A5 c5 wc o5 g5 b5
        try rw [List.nil_append] at o5 ⊢
        try rw [HM.out] at o5 ⊢
        have hxc : Below w3.heap.size w3 wc := hxb.trans b5
        refine hK.out _ _ ?_ (fun hHeld => ?_)
        · exact ⟨(hxc.cell (p := ⟨gP, 0, none⟩) (by show gP < _; omega)).trans p0, (hxc.cell (p := ⟨gP, 1, none⟩) (by show gP < _; omega)).trans p1, (hxc.cell (p := ⟨gP, 2, none⟩) (by show gP < _; omega)).trans p2⟩
        clear hK K
        try simp only [Act.put, List.setIfInBounds_toArray, List.set_cons_zero, List.set_cons_succ]
        have RZ2 : RowAt wc wa.heap.size 36 [.int .i64 0, .bool false, .slice none 0 0] := (g5.block wa.heap.size (by rw [Hwb.out, World.size_alloc]; exact Nat.lt_succ_self _) (by simp [Value.ownBlock, Hwa.out])).trans (by rw [Hwb.out]; exact RowAt.new wa _ [.int .i64 0, .bool false, .slice none 0 0])
        refine takeD (i := 8) (oi := _) (v := ?vv8) (d := some 24) rfl (by kernel_rfl) (by kernel_rfl) (by kernel_rfl) (by kernel_rfl) (fun _ _ _ h => h) (Or.inl ⟨by kernel_rfl, ?_⟩) (by assumption) ?_
        rotate_left 1
        · intro W_ hSw; (try dsimp only at hSw); go_simp; (first | done | with_reducible rfl)
        try simp only [Act.put, List.setIfInBounds_toArray, List.set_cons_zero, List.set_cons_succ]
        have zq : w3.heap.size ≤ wa.heap.size := by first | exact hxb.size | exact hxa.size | exact Nat.le_refl _
        refine wpAnyH_ready (rs := [10]) (by kernel_rfl) (by simp) ?_
        refine AllReadyH.cons (o := _) rfl (fun K hK => ?_) AllReadyH.nil
        (refine step_store_var rfl 36 (.tmp 8) (.tmp 24) rfl wa.heap.size _ (pmV (ns : Int) up A5 m c5) 3 rfl rfl RZ2 size_pc rfl rfl (fun u hu => ?_) ?_)
        · simp only [pmV, List.mem_cons, List.not_mem_nil, or_false] at hu
          rcases hu with rfl | rfl | rfl <;> rfl
        intro w9 r9 k9
        go_simp
        have hx9 : Below w3.heap.size w3 w9 := k9.to hxc (by omega)
        refine hK.out _ _ ?_ (fun hHeld => ?_)
        · exact ⟨(hx9.cell (p := ⟨gP, 0, none⟩) (by show gP < _; omega)).trans p0, (hx9.cell (p := ⟨gP, 1, none⟩) (by show gP < _; omega)).trans p1, (hx9.cell (p := ⟨gP, 2, none⟩) (by show gP < _; omega)).trans p2⟩
        clear hK K
        try simp only [Act.put, List.setIfInBounds_toArray, List.set_cons_zero, List.set_cons_succ]
        refine wpAnyH_done (by kernel_rfl) ?_ _
        have O9 : Hid (w9.ownsRow w3.heap.size 5 1 (.slice A5 m c5) m (by_.map byw)) := Lib.hid (own_only_ne k9 o5 (own_off o5 RZ2 (by decide)))
        have R9 := Lib.hid r9
        have B9 := Lib.hid hx9
        clear r9 k9 hx9
        go_wp2
        go_meet
        case rel => exact ⟨wa.heap.size, A5, c5, rfl, by omega, R9, O9, B9⟩
    · go_simp
      obtain ⟨wa, hwa⟩ : ∃ q, q = (w3.alloc (.cells #[.int .i64 0, .bool false, .slice none 0 0] 36)).drew := ⟨_, rfl⟩
      rw [← hwa]
      have hxa : Below w3.heap.size w3 wa := by rw [hwa]; exact (bel_alloc (Below.refl _ _) _).drew
      have Hwa := Lib.hid hwa
      clear hwa
      refine hK.out _ _ ?_ (fun hHeld => ?_)
      · exact ⟨(hxa.cell (p := ⟨gP, 0, none⟩) (by show gP < _; omega)).trans p0, (hxa.cell (p := ⟨gP, 1, none⟩) (by show gP < _; omega)).trans p1, (hxa.cell (p := ⟨gP, 2, none⟩) (by show gP < _; omega)).trans p2⟩
      clear hK K
      try simp only [Act.put, List.setIfInBounds_toArray, List.set_cons_zero, List.set_cons_succ]
      refine wpAnyH_ready (rs := [4]) (by kernel_rfl) (by simp) ?_
      refine AllReadyH.cons (o := _) rfl (fun K hK => ?_) AllReadyH.nil
      go_simp
      obtain ⟨wb, hwb⟩ : ∃ q, q = wa.alloc (.cells #[] 5) := ⟨_, rfl⟩
      rw [← hwb]
      have hxb : Below w3.heap.size w3 wb := by rw [hwb]; exact bel_alloc hxa _
      have Hwb := Lib.hid hwb
      clear hwb
      refine hK.out _ _ ?_ (fun hHeld => ?_)
      · exact ⟨(hxb.cell (p := ⟨gP, 0, none⟩) (by show gP < _; omega)).trans p0, (hxb.cell (p := ⟨gP, 1, none⟩) (by show gP < _; omega)).trans p1, (hxb.cell (p := ⟨gP, 2, none⟩) (by show gP < _; omega)).trans p2⟩
      clear hK K
      try simp only [Act.put, List.setIfInBounds_toArray, List.set_cons_zero, List.set_cons_succ]
      refine wpAnyH_ready (rs := [7]) (by kernel_rfl) (by simp) ?_
      refine AllReadyH.cons (o := _) rfl (fun K hK => ?_) AllReadyH.nil
      (refine step_append_sq (f := byw) _ (by rfl) (.tmp 20) (.tmp 22) 34 (by rfl) (fun _ => rfl) w3.heap.size 5 i0 _ _ Try.underlying34 hif hz0 rfl hz1 hz2 (by decide) (.slice (some ⟨wa.heap.size, 0, none⟩) 0 0) [] (by rfl) (by rw [Hwb.out]; exact own_sq_empty byw wa w3.heap.size 5 wa.heap.size rfl hxa.size) w3.heap.size XA by_ xc m HM.out (by rfl) (SQ3.out.below hxb) NL.out (by simp; omega) hxb.size ?_)
      intro A5 c5 wc o5 g5 b5
      try rw [List.nil_append] at o5 ⊢
      try rw [HM.out] at o5 ⊢
      have hxc : Below w3.heap.size w3 wc := hxb.trans b5
      refine hK.out _ _ ?_ (fun hHeld => ?_)
      · exact ⟨(hxc.cell (p := ⟨gP, 0, none⟩) (by show gP < _; omega)).trans p0, (hxc.cell (p := ⟨gP, 1, none⟩) (by show gP < _; omega)).trans p1, (hxc.cell (p := ⟨gP, 2, none⟩) (by show gP < _; omega)).trans p2⟩
      clear hK K
      try simp only [Act.put, List.setIfInBounds_toArray, List.set_cons_zero, List.set_cons_succ]
      have RZ3 : RowAt wc w3.heap.size 36 [.int .i64 0, .bool false, .slice none 0 0] := (g5.block w3.heap.size (by have := hxb.size; have h9 := congrArg (fun q => q.heap.size) Hwa.out; simp at h9; have := hxa.size; rw [Hwb.out, World.size_alloc]; omega) (by simp [Value.ownBlock, Hwa.out])).trans (by rw [Hwb.out, Hwa.out]; exact ((RowAt.new w3 36 [.int .i64 0, .bool false, .slice none 0 0]).drew).alloc _)
      refine takeD (i := 8) (oi := _) (v := ?vv9) (d := some 24) rfl (by kernel_rfl) (by kernel_rfl) (by kernel_rfl) (by kernel_rfl) (fun _ _ _ h => h) (Or.inl ⟨by kernel_rfl, ?_⟩) (by assumption) ?_
      rotate_left 1
      · intro W_ hSw; (try dsimp only at hSw); go_simp; (first | done | with_reducible rfl)
      try simp only [Act.put, List.setIfInBounds_toArray, List.set_cons_zero, List.set_cons_succ]
      have zq : w3.heap.size ≤ w3.heap.size := by first | exact hxb.size | exact hxa.size | exact Nat.le_refl _
      refine wpAnyH_ready (rs := [10]) (by kernel_rfl) (by simp) ?_
      refine AllReadyH.cons (o := _) rfl (fun K hK => ?_) AllReadyH.nil
      (refine step_store_var rfl 36 (.tmp 8) (.tmp 24) rfl w3.heap.size _ (pmV (ns : Int) up A5 m c5) 3 rfl rfl RZ3 size_pc rfl rfl (fun u hu => ?_) ?_)
      · simp only [pmV, List.mem_cons, List.not_mem_nil, or_false] at hu
        rcases hu with rfl | rfl | rfl <;> rfl
      intro w9 r9 k9
      go_simp
      have hx9 : Below w3.heap.size w3 w9 := k9.to hxc (by omega)
      refine hK.out _ _ ?_ (fun hHeld => ?_)
      · exact ⟨(hx9.cell (p := ⟨gP, 0, none⟩) (by show gP < _; omega)).trans p0, (hx9.cell (p := ⟨gP, 1, none⟩) (by show gP < _; omega)).trans p1, (hx9.cell (p := ⟨gP, 2, none⟩) (by show gP < _; omega)).trans p2⟩
      clear hK K
      try simp only [Act.put, List.setIfInBounds_toArray, List.set_cons_zero, List.set_cons_succ]
      refine wpAnyH_done (by kernel_rfl) ?_ _
      have O9 : Hid (w9.ownsRow w3.heap.size 5 1 (.slice A5 m c5) m (by_.map byw)) := Lib.hid (own_only_ne k9 o5 (own_off o5 RZ3 (by decide)))
      have R9 := Lib.hid r9
      have B9 := Lib.hid hx9
      clear r9 k9 hx9
      go_wp2
      go_meet
      case rel => exact ⟨w3.heap.size, A5, c5, rfl, by omega, R9, O9, B9⟩
  case rest =>
  obtain ⟨gQ, A5, c5, rfl, hgQ, RQ, OB, BQ⟩ := hcut
  clear p0 p1 p2
  rename World => wq
  have BQ0 := Lib.hid (B0.out.trans (BQ.out.mono B0.out.size))
  have hzq : w3.heap.size ≤ wq.heap.size := BQ.out.size
  have hb4q : gX + 4 ≤ w3.heap.size := by omega
  have SQq := Lib.hid ((SQ.out.below BQ0.out).more BQ0.out.size)
  clear SQ3
  obtain ⟨br, orr, rb, rfl, hbr, hrb, hcr⟩ := HB.out.rtu.at_ (j := ns) (by rw [HN0.out]; exact hs)
  have d0 : wq.cell? ⟨br, orr + ns, none⟩ = some (.bool rb) := (BQ0.out.cell (p := ⟨br, orr + ns, none⟩) hbr).trans hcr
  have d1 : wq.cell? ⟨gX, 0, none⟩ = some (.slice (some ⟨br, orr, none⟩) n0 c0) := (RX.out.to BQ.out).cells 0
  have d2 : wq.cell? ⟨gP, 0, none⟩ = some (.int .i64 (ns : Int)) := (RP.out.to BQ.out).cells 0
  have hsI : (ns : Int) < (n0 : Int) := by omega
  have h0I : (0 : Int) ≤ (ns : Int) := by omega
  have hbrl : br < wq.heap.size := Nat.lt_of_lt_of_le hbr BQ0.out.size
  obtain ⟨B1, hB1⟩ : ∃ B1, Bu.turned by_ at_ (if rb = true then turns else 0) = B1 := ⟨_, rfl⟩
  have HL1 : Hid (B1.length = m) := Lib.hid (by rw [← hB1, Bu.turned_length]; exact HM.out)
  have HU1 : Hid (∀ x ∈ B1, x < 256) := Lib.hid (by rw [← hB1]; exact Bu.turn_u HU.out)
  obtain ⟨t1, ht1⟩ : ∃ t, b.time + 1 + wait = t := ⟨_, rfl⟩
  obtain ⟨t2, ht2⟩ : ∃ t, b.time + 1 + again = t := ⟨_, rfl⟩
  have HBV : Hid (B' = ⟨b.rtu, b.time, b.l ++ (t1, ⟨(ns : Int), up, B1⟩) :: (if twice = true then [(t2, ⟨(ns : Int), up, by_⟩)] else [])⟩) := Lib.hid (by
    have hg : b.rtu.getD (ns : Int).toNat false = rb := by rw [Int.toNat_natCast, List.getD_eq_getElem?_getD, hrb]; rfl
    rw [← HBB.out]
    unfold Bu.send
    dsimp only
    rw [if_neg (by decide)]
    rw [hg, hB1, ht1, ht2])
  have ht1I : (b.time : Int) + 1 + (wait : Int) = (t1 : Int) := by omega
  have ht2I : (b.time : Int) + 1 + (again : Int) = (t2 : Int) := by omega
  have HT1 := Lib.hid ht1I
  have HT2 := Lib.hid ht2I
  have HB1 := Lib.hid hB1
  have htb : t1 ≤ 100300 ∧ t2 ≤ 100300 := by omega
  clear hrb hcr hB1 ht1 ht2 ht1I ht2I hbr HBB
  go_upto_if 30 with fail
  clear d0 d1 d2
  go_cut [] (fun wx => ∃ (A6 : Option Addr) (c6 : Nat), Hid (RowAt wx gQ 36 (pmV (ns : Int) up A6 m c6)) ∧ Hid (wx.ownsRow w3.heap.size 5 1 (.slice A6 m c6) m (B1.map byw)) ∧ Hid (Below w3.heap.size w3 wx))
  case first =>
    cases rb
    · obtain rfl : by_ = B1 := by rw [← HB1.out, if_neg (by decide), Bu.turned_zero]
      go_wp2
      go_meet
      case rel => exact ⟨A5, c5, RQ, OB, BQ⟩
    · have e1 : wq.cell? ⟨gP, 2, none⟩ = some (.slice XA m xc) := (RP.out.to BQ.out).cells 2
      have e2 : wq.cell? ⟨gF, 4, none⟩ = some (.int .u16 (at_ : Int)) := (RF.out.to BQ.out).cells 4
      have e3 : wq.cell? ⟨gF, 5, none⟩ = some (.int .u16 (turns : Int)) := (RF.out.to BQ.out).cells 5
      have ktu := Lib.hid (rturned_any by_ XA m xc at_ turns wq HM.out SQq.out HU.out hm1 hm3 hat htu)
      have hT : Bu.turned by_ at_ turns = B1 := by rw [← HB1.out, if_pos rfl]
      rw [hT] at ktu
      clear hT
      go_wp2_with fail
      with_reducible refine (ktu.out).mono ?_
      rintro e6 w6 ⟨A6, c6, rfl, o6, hb6⟩
      have O6 := Lib.hid o6
      have B6 : Hid (Below w3.heap.size w3 w6) := Lib.hid (BQ.out.trans (hb6.mono hzq))
      have RQ6 := Lib.hid (RQ.out.to hb6)
      have q2 : w6.cell? ⟨gQ, 2, none⟩ = some (.slice A5 m c5) := RQ6.out.cells 2
      have fq := RQ6.out.frozen 2
      have ltq := RQ6.out.lt
      have hqq : gQ < wq.heap.size := RQ.out.lt
      clear o6 hb6 e1 e2 e3 ktu
      go_wp2
      go_meet
      case rel =>
        have k : Only gQ w6 (w6.setCell ⟨gQ, 2, none⟩ (.slice A6 m c6)) := (Only.refl _ _).set _
        exact ⟨A6, c6, Lib.hid (RQ6.out.set 2 _), Lib.hid (own_more (own_only_w k O6.out hqq) hzq), Lib.hid (k.to B6.out hgQ)⟩
  case rest =>
  obtain ⟨A6, c6, RQ6, OB6, B6⟩ := hcut
  rename World => wx
  have hz6 : w3.heap.size ≤ wx.heap.size := B6.out.size
  replace RX := Lib.hid (RX.out.to B6.out)
  replace RP := Lib.hid (RP.out.to B6.out)
  replace RF := Lib.hid (RF.out.to B6.out)
  replace RR := Lib.hid (RR.out.to B6.out)
  replace O3 := Lib.hid (own_below O3.out B6.out)
  replace B0 := Lib.hid (B0.out.trans (B6.out.mono B0.out.size))
  clear BQ BQ0 SQq OB RQ
  have y1 : wx.cell? ⟨gX, 1, none⟩ = some (.int .i64 (b.time : Int)) := RX.out.cells 1
  have y2 : wx.cell? ⟨gF, 2, none⟩ = some (.int .u8 (wait : Int)) := RF.out.cells 2
  have hal : Below wx.heap.size wx (wx.alloc (.cells #[.int .i64 (t1 : Int), .int .i64 (ns : Int), .bool up, .slice A6 m c6] 67)) := bel_alloc (Below.refl _ _) _
  have HAL := Lib.hid hal
  have P3 := Lib.hid (own_below O3.out hal)
  have PB := Lib.hid (own_below OB6.out hal)
  have hz7 : gX + 4 ≤ (wx.alloc (.cells #[.int .i64 (t1 : Int), .int .i64 (ns : Int), .bool up, .slice A6 m c6] 67)).heap.size := by have := hal.size; omega
  have LIT : Hid (Recs wyF 4 (wx.alloc (.cells #[.int .i64 (t1 : Int), .int .i64 (ns : Int), .bool up, .slice A6 m c6] 67)) (wx.heap.size + 1) (some ⟨wx.heap.size, 0, none⟩) [⟨t1, ⟨⟨(ns : Int), up, B1⟩, A6, c6⟩⟩]) := Lib.hid (Recs.lits (f := wyF) (s := 4) (fun _ => rfl) (by decide) wx _ _ _ _ _ (by show [Value.int .i64 (t1 : Int), .int .i64 (ns : Int), .bool up, .slice A6 m c6] = [Value.int .i64 (t1 : Int), .int .i64 (ns : Int), .bool up, .slice A6 B1.length c6]; rw [HL1.out]) rfl (Nat.lt_succ_self _))
  have ht1I := HT1.out
  clear hal
  go_upto_region 8 with (first | (refine wpList_load_var rfl 36 (.tmp 8) rfl gQ rfl _ _ 3 RQ6.out Try.underlying36 rfl size_pc rfl ?_) | (at_builtin; go_loud (refine wpList_append_recs (f := wyF) (s := 4) _ rfl (.tmp 39) (.tmp 49) 31 rfl (fun _ => rfl) (by decide) wyF_one (gX + 4) 67 iW _ 48 Try.underlying31 hifW hw0_ hw1_ hw2_ (by decide) rfl (.slice A3 nw c3) l rfl (by rw [HB.out.len]; exact P3.out) (wx.heap.size + 1) (some ⟨wx.heap.size, 0, none⟩) [⟨t1, ⟨⟨(ns : Int), up, B1⟩, A6, c6⟩⟩] 1 1 rfl rfl LIT.out (by simp) (by rw [HB.out.len]; omega) hz7 ?_; intro A8 c8 w8 o8 g8 b8; have O8 := Lib.hid o8; have G8 := Lib.hid g8; clear o8 g8)))
  have hlen : (l ++ [(⟨t1, ⟨⟨(ns : Int), up, B1⟩, A6, c6⟩⟩ : Wy)]).length = nw + 1 := by rw [List.length_append, HB.out.len]; rfl
  rw [hlen] at O8
  try rw [hlen]
  try rw [HB.out.len]
  have OB8 := Lib.hid (own_grown_w PB.out G8.out (own_ne_w PB.out P3.out (by decide)))
  replace RX := Lib.hid (show RowAt w8 gX 33 (rbC (some ⟨br, orr, none⟩) n0 c0 (b.time : Int) Aw nw cw) from (b8.block _ (by omega)).trans (RX.out.to HAL.out))
  replace RP := Lib.hid (show RowAt w8 gP 36 (pmV (ns : Int) up XA m xc) from (b8.block _ (by omega)).trans (RP.out.to HAL.out))
  replace RF := Lib.hid (show RowAt w8 gF 39 (faV false twice wait again at_ turns) from (b8.block _ (by omega)).trans (RF.out.to HAL.out))
  replace RR := Lib.hid (show RowAt w8 gR 33 (rbC none 0 0 0 none 0 0) from (b8.block _ (by omega)).trans (RR.out.to HAL.out))
  replace B0 := Lib.hid ((B0.out.trans (HAL.out.mono B0.out.size)).trans (b8.mono (by have := HGX.out; omega)))
  have hz8 : gX + 4 ≤ w8.heap.size := Nat.le_trans hz7 b8.size
  clear y1 y2 HAL P3 PB LIT G8 b8 hz7 RQ6 OB6 B6 O3 ht1I hz6 hlen
  obtain ⟨L8, hL8⟩ : ∃ L, l ++ [(⟨t1, ⟨⟨(ns : Int), up, B1⟩, A6, c6⟩⟩ : Wy)] = L := ⟨_, rfl⟩
  rw [hL8] at O8
  have N8 : Hid (L8.length = nw + 1) := Lib.hid (by rw [← hL8, List.length_append, HB.out.len]; rfl)
  have W8 : Hid (∀ x ∈ L8, x ∈ l ∨ (w8.ownsRow (gX + 4) 5 1 (.slice x.p.A x.p.p.b.length x.p.c) x.p.p.b.length (x.p.p.b.map byw) ∧ ∀ y ∈ x.p.p.b, y < 256)) := Lib.hid (fun x hx => by
    rw [← hL8] at hx
    rcases List.mem_append.1 hx with hx | hx
    · exact .inl hx
    · obtain rfl := List.mem_singleton.1 hx
      refine .inr ⟨?_, HU1.out⟩
      show w8.ownsRow (gX + 4) 5 1 (.slice A6 B1.length c6) B1.length (B1.map byw)
      rw [HL1.out]
      exact own_more OB8.out hb4q)
  have HM8 : Hid (L8.map (fun x => (x.t, x.p.p)) = b.l ++ [(t1, ⟨(ns : Int), up, B1⟩)]) := Lib.hid (by rw [← hL8, List.map_append, HB.out.val]; rfl)
  have y0 : w8.cell? ⟨gF, 1, none⟩ = some (.bool twice) := RF.out.cells 1
  clear hL8 OB8
  cases twice
  · have V8 : Hid (L8.map (fun x => (x.t, x.p.p)) = b.l ++ (t1, ⟨(ns : Int), up, B1⟩) :: (if false = true then [(t2, ⟨(ns : Int), up, by_⟩)] else [])) := Lib.hid (by rw [HM8.out]; rfl)
    go_upto_region 10 with fail
    clear y0
    have x2 : w8.cell? ⟨gX, 2, none⟩ = some (.slice Aw nw cw) := RX.out.cells 2
    have fx := RX.out.frozen 2
    have ltX := RX.out.lt
    go_upto_region 11 with fail
    obtain ⟨wa_, hwa_⟩ : ∃ w_q_, w_q_ = w8.setCell ⟨gX, 2, none⟩ (.slice A8 (nw + 1) c8) := ⟨_, rfl⟩
    rw [← hwa_]
    have ka : Only gX w8 wa_ := by rw [hwa_]; exact (Only.refl _ _).set _
    have RA : Hid (RowAt wa_ gX 33 (rbC (some ⟨br, orr, none⟩) n0 c0 (b.time : Int) A8 (nw + 1) c8)) := Lib.hid (by rw [hwa_]; exact RX.out.set 2 _)
    replace RR := Lib.hid (RR.out.only ka (by omega))
    replace B0 := Lib.hid (ka.to B0.out (by have := HGX.out; omega))
    have OA := Lib.hid (own_only_w ka O8.out (by omega))
    have WA : Hid (∀ x ∈ L8, x ∈ l ∨ (wa_.ownsRow (gX + 4) 5 1 (.slice x.p.A x.p.p.b.length x.p.c) x.p.p.b.length (x.p.p.b.map byw) ∧ ∀ y ∈ x.p.p.b, y < 256)) := Lib.hid (fun x hx => (W8.out x hx).imp id (fun h => ⟨own_only_w ka h.1 (by omega), h.2⟩))
    clear hwa_ ka x2 fx ltX RX
    go_wp2_with (first | (refine wpList_load_var rfl 33 (.tmp 3) rfl gX rfl _ _ 3 RA.out Try.underlying33 rfl size_rbus rfl ?_) | (refine wpList_store_var rfl 33 (.tmp 6) (.tmp 75) rfl gR _ (rbC (some ⟨br, orr, none⟩) n0 c0 (b.time : Int) A8 (nw + 1) c8) 3 rfl rfl RR.out size_rbus rfl rfl (rbC_one _ _ _ _ _ _ _) ?_; intro w7 r7 k7; have R7 := Lib.hid r7; have K7 := Lib.hid k7; clear r7 k7))
    refine bodyPost_ret (results_cell_row rfl _ _ gR 33 _ (0, 0) _ rfl R7.out Try.underlying33 rfl (by rw [size_rbus]; rfl)) rfl ?_
    have B7 := K7.out.to B0.out (by have := HGX.out; omega)
    have OZ := own_only_w K7.out OA.out (by omega)
    have hW := HB.out.ways.to B7
    have WZ : ∀ x ∈ L8, Sq byw w7 w7.heap.size x.p.A x.p.p.b ∧ (∀ y ∈ x.p.p.b, y < 256) ∧ (x.p.A = none → x.p.c = 0) := fun x hx => by
      rcases WA.out x hx with hx | ⟨ho, h2⟩
      · exact ⟨hW.byt x hx, hW.u x hx, hW.nl x hx⟩
      · have h9 := own_only_w K7.out ho (by omega)
        exact ⟨Sq.of_own h9, h2, (own_nil_c h9).1⟩
    refine ⟨A8, (nw + 1), c8, L8, rfl, ⟨?_, ⟨Recs.of_own (f := wyF) (s := 4) (fun _ => rfl) (by decide) OZ, fun x hx => (WZ x hx).1, fun x hx => (WZ x hx).2.1, fun x hx => (WZ x hx).2.2⟩, N8.out, fun e => ((own_nil_s OZ).1 e).1, ?_⟩, B7, Lib.hid (fun F hF ho => ⟨fun hn p hp hm => ?_, fun x hx hn p hp hm => ?_⟩)⟩
    · rw [HBV.out]; exact (HB.out.rtu.below B7).more B7.size
    · rw [HBV.out]; exact V8.out
    · have h1 := (own_at_s OZ p hp).1
      have h2 := hF _ hm
      have := HGX.out
      omega
    · rcases WA.out x hx with hx | ⟨hw, _⟩
      · exact ho.2 x hx hn p hp hm
      · have h1 := (own_at_s hw p hp).1
        have h2 := hF _ hm
        have := HGX.out
        omega
  · go_upto_region 9 with fail
    clear y0
    have y1 : w8.cell? ⟨gX, 1, none⟩ = some (.int .i64 (b.time : Int)) := RX.out.cells 1
    have y2 : w8.cell? ⟨gF, 3, none⟩ = some (.int .u8 (again : Int)) := RF.out.cells 3
    have y3 : w8.cell? ⟨gP, 0, none⟩ = some (.int .i64 (ns : Int)) := RP.out.cells 0
    have y4 : w8.cell? ⟨gP, 1, none⟩ = some (.bool up) := RP.out.cells 1
    have y5 : w8.cell? ⟨gP, 2, none⟩ = some (.slice XA m xc) := RP.out.cells 2
    have SQ8 := Lib.hid ((SQ.out.below B0.out).more B0.out.size)
    obtain ⟨T1, hT1⟩ : ∃ T, b.time + 1 = T := ⟨_, rfl⟩
    have j1 : (b.time : Int) + 1 = (T1 : Int) := by omega
    have j2 : IntKind.i64.wrap (T1 : Int) = (T1 : Int) := IntWalk.i64_in _ (by omega)
    have j3 : IntKind.i64.wrap (again : Int) = (again : Int) := IntWalk.i64_in _ (by omega)
    have j4 : (T1 : Int) + (again : Int) = (t2 : Int) := by have := HT2.out; omega
    have j5 : IntKind.i64.wrap (t2 : Int) = (t2 : Int) := IntWalk.i64_in _ (by omega)
    clear hT1
    refine wp_region_held_drew (S := (fun w' => w'.cell? ⟨gX, 1, none⟩ = some (.int .i64 (b.time : Int)) ∧ w'.cell? ⟨gF, 3, none⟩ = some (.int .u8 (again : Int)) ∧ w'.cell? ⟨gP, 0, none⟩ = some (.int .i64 (ns : Int)) ∧ w'.cell? ⟨gP, 1, none⟩ = some (.bool up) ∧ w'.cell? ⟨gP, 2, none⟩ = some (.slice XA m xc))) (by kernel_rfl) ?_ (fun hHeld => ?_)
    · exact ⟨y1, y2, y3, y4, y5⟩
    refine takeD (i := 0) (oi := _) (v := ?vv10) (d := some 53) rfl (by kernel_rfl) (by kernel_rfl) (by kernel_rfl) (by kernel_rfl) (fun _ _ _ h => h) (Or.inl ⟨by kernel_rfl, ?_⟩) (by assumption) ?_
    rotate_left 1
    · intro W_ hSw; (try dsimp only at hSw); go_simp; (first | done | with_reducible rfl)
    try simp only [Act.put, List.setIfInBounds_toArray, List.set_cons_zero, List.set_cons_succ]
    refine takeD (i := 1) (oi := _) (v := ?vv11) (d := some 54) rfl (by kernel_rfl) (by kernel_rfl) (by kernel_rfl) (by kernel_rfl) (fun _ _ _ h => h) (Or.inl ⟨by kernel_rfl, ?_⟩) (by assumption) ?_
    rotate_left 1
    · intro W_ hSw; (try dsimp only at hSw); go_simp; (first | done | with_reducible rfl)
    try simp only [Act.put, List.setIfInBounds_toArray, List.set_cons_zero, List.set_cons_succ]
    refine takeD (i := 2) (oi := _) (v := ?vv12) (d := some 55) rfl (by kernel_rfl) (by kernel_rfl) (by kernel_rfl) (by kernel_rfl) (fun _ _ _ h => h) (Or.inl ⟨by kernel_rfl, ?_⟩) (by assumption) ?_
    rotate_left 1
    · intro W_ hSw; (try dsimp only at hSw); go_simp; (first | done | with_reducible rfl)
    try simp only [Act.put, List.setIfInBounds_toArray, List.set_cons_zero, List.set_cons_succ]
    refine takeD (i := 3) (oi := _) (v := ?vv13) (d := some 56) rfl (by kernel_rfl) (by kernel_rfl) (by kernel_rfl) (by kernel_rfl) (fun _ _ _ h => h) (Or.inl ⟨by kernel_rfl, ?_⟩) (by assumption) ?_
    rotate_left 1
    · intro W_ hSw; (try dsimp only at hSw); go_simp; (first | done | with_reducible rfl)
    try simp only [Act.put, List.setIfInBounds_toArray, List.set_cons_zero, List.set_cons_succ]
    refine takeD (i := 4) (oi := _) (v := ?vv14) (d := some 57) rfl (by kernel_rfl) (by kernel_rfl) (by kernel_rfl) (by kernel_rfl) (fun _ _ _ h => h) (Or.inl ⟨by kernel_rfl, ?_⟩) (by assumption) ?_
    rotate_left 1
    · intro W_ hSw; (try dsimp only at hSw); go_simp; (first | done | with_reducible rfl)
    try simp only [Act.put, List.setIfInBounds_toArray, List.set_cons_zero, List.set_cons_succ]
    refine takeD (i := 5) (oi := _) (v := ?vv15) (d := some 58) rfl (by kernel_rfl) (by kernel_rfl) (by kernel_rfl) (by kernel_rfl) (fun _ _ _ h => h) (Or.inl ⟨by kernel_rfl, ?_⟩) (by assumption) ?_
    rotate_left 1
    · intro W_ hSw; (try dsimp only at hSw); go_simp; (first | done | with_reducible rfl)
    try simp only [Act.put, List.setIfInBounds_toArray, List.set_cons_zero, List.set_cons_succ]
    refine takeD (i := 6) (oi := _) (v := ?vv16) (d := some 59) rfl (by kernel_rfl) (by kernel_rfl) (by kernel_rfl) (by kernel_rfl) (fun _ _ _ h => h) (Or.inl ⟨by kernel_rfl, ?_⟩) (by assumption) ?_
    rotate_left 1
    · intro W_ hSw; (try dsimp only at hSw); go_simp; (first | done | with_reducible rfl)
    try simp only [Act.put, List.setIfInBounds_toArray, List.set_cons_zero, List.set_cons_succ]
    refine takeD (i := 7) (oi := _) (v := ?vv17) (d := some 60) rfl (by kernel_rfl) (by kernel_rfl) (by kernel_rfl) (by kernel_rfl) (fun _ _ _ h => h) (Or.inl ⟨by kernel_rfl, ?_⟩) (by assumption) ?_
    rotate_left 1
    · intro W_ hSw; (try dsimp only at hSw); go_simp; (first | done | with_reducible rfl)
    try simp only [Act.put, List.setIfInBounds_toArray, List.set_cons_zero, List.set_cons_succ]
    refine takeD (i := 8) (oi := _) (v := ?vv18) (d := some 61) rfl (by kernel_rfl) (by kernel_rfl) (by kernel_rfl) (by kernel_rfl) (fun _ _ _ h => h) (Or.inl ⟨by kernel_rfl, ?_⟩) (by assumption) ?_
    rotate_left 1
    · intro W_ hSw; (try dsimp only at hSw); go_simp; (first | done | with_reducible rfl)
    try simp only [Act.put, List.setIfInBounds_toArray, List.set_cons_zero, List.set_cons_succ]
    refine takeD (i := 9) (oi := _) (v := ?vv19) (d := some 62) rfl (by kernel_rfl) (by kernel_rfl) (by kernel_rfl) (by kernel_rfl) (fun _ _ _ h => h) (Or.inl ⟨by kernel_rfl, ?_⟩) (by assumption) ?_
    rotate_left 1
    · intro W_ hSw; (try dsimp only at hSw); go_simp; (first | done | with_reducible rfl)
    try simp only [Act.put, List.setIfInBounds_toArray, List.set_cons_zero, List.set_cons_succ]
    refine takeD (i := 10) (oi := _) (v := ?vv20) (d := some 63) rfl (by kernel_rfl) (by kernel_rfl) (by kernel_rfl) (by kernel_rfl) (fun _ _ _ h => h) (Or.inl ⟨by kernel_rfl, ?_⟩) (by assumption) ?_
    rotate_left 1
    · intro W_ hSw; (try dsimp only at hSw); go_simp; (first | done | with_reducible rfl)
    try simp only [Act.put, List.setIfInBounds_toArray, List.set_cons_zero, List.set_cons_succ]
    refine takeD (i := 11) (oi := _) (v := ?vv21) (d := some 64) rfl (by kernel_rfl) (by kernel_rfl) (by kernel_rfl) (by kernel_rfl) (fun _ _ _ h => h) (Or.inl ⟨by kernel_rfl, ?_⟩) (by assumption) ?_
    rotate_left 1
    · intro W_ hSw; (try dsimp only at hSw); go_simp; (first | done | with_reducible rfl)
    try simp only [Act.put, List.setIfInBounds_toArray, List.set_cons_zero, List.set_cons_succ]
    refine takeD (i := 13) (oi := _) (v := ?vv22) (d := some 66) rfl (by kernel_rfl) (by kernel_rfl) (by kernel_rfl) (by kernel_rfl) (fun _ _ _ h => h) (Or.inl ⟨by kernel_rfl, ?_⟩) (by assumption) ?_
    rotate_left 1
    · intro W_ hSw; (try dsimp only at hSw); go_simp; (first | done | with_reducible rfl)
    try simp only [Act.put, List.setIfInBounds_toArray, List.set_cons_zero, List.set_cons_succ]
    refine takeD (i := 14) (oi := _) (v := ?vv23) (d := some 67) rfl (by kernel_rfl) (by kernel_rfl) (by kernel_rfl) (by kernel_rfl) (fun _ _ _ h => h) (Or.inl ⟨by kernel_rfl, ?_⟩) (by assumption) ?_
    rotate_left 1
    · intro W_ hSw; (try dsimp only at hSw); go_simp; (first | done | with_reducible rfl)
    try simp only [Act.put, List.setIfInBounds_toArray, List.set_cons_zero, List.set_cons_succ]
    refine wpAnyH_ready (rs := [12]) (by kernel_rfl) (by simp) ?_
    refine AllReadyH.cons (o := _) rfl (fun K hK => ?_) AllReadyH.nil
    go_simp
    obtain ⟨wa, hwa⟩ : ∃ q, q = (w8.alloc (.cells #[] 5)).drew := ⟨_, rfl⟩
    rw [← hwa]
    have hxa : Below (gX + 4) w8 wa := by rw [hwa]; exact ((Below.refl (gX + 4) w8).alloc (by omega) _).drew
    have Hwa := Lib.hid hwa
    clear hwa
    refine hK.out _ _ ?_ (fun hHeld => ?_)
    · exact ⟨(hxa.cell (p := ⟨gX, 1, none⟩) (by show gX < _; omega)).trans y1, (hxa.cell (p := ⟨gF, 3, none⟩) (by show gF < _; omega)).trans y2, (hxa.cell (p := ⟨gP, 0, none⟩) (by show gP < _; omega)).trans y3, (hxa.cell (p := ⟨gP, 1, none⟩) (by show gP < _; omega)).trans y4, (hxa.cell (p := ⟨gP, 2, none⟩) (by show gP < _; omega)).trans y5⟩
    clear hK K
    try simp only [Act.put, List.setIfInBounds_toArray, List.set_cons_zero, List.set_cons_succ]
    refine wpAnyH_ready (rs := [15]) (by kernel_rfl) (by simp) ?_
    refine AllReadyH.cons (o := _) rfl (fun K hK => ?_) AllReadyH.nil
    (refine step_append_sq (f := byw) _ (by rfl) (.tmp 65) (.tmp 67) 34 (by rfl) (fun _ => rfl) w8.heap.size 5 i0 _ _ Try.underlying34 hif hz0 rfl hz1 hz2 (by decide) (.slice (some ⟨w8.heap.size, 0, none⟩) 0 0) [] (by rfl) (by rw [Hwa.out]; exact own_sq_empty byw w8 w8.heap.size 5 w8.heap.size rfl (Nat.le_refl _)) w8.heap.size XA by_ xc m HM.out (by rfl) (by rw [Hwa.out]; exact SQ8.out.below (bel_alloc (Below.refl _ _) _).drew) NL.out (by simp; omega) (by rw [Hwa.out]; exact (bel_alloc (Below.refl _ _) (.cells #[] 5)).drew.size) ?_)
    intro A9 c9 wb o5 g5 b5
    try rw [List.nil_append] at o5 ⊢
    try rw [HM.out] at o5 ⊢
    have hxb : Below (gX + 4) w8 wb := hxa.trans (b5.mono hz8)
    have hwab : Below w8.heap.size w8 wb := (show Below w8.heap.size w8 wa by rw [Hwa.out]; exact (bel_alloc (Below.refl _ _) _).drew).trans b5
    refine hK.out _ _ ?_ (fun hHeld => ?_)
    · exact ⟨(hxb.cell (p := ⟨gX, 1, none⟩) (by show gX < _; omega)).trans y1, (hxb.cell (p := ⟨gF, 3, none⟩) (by show gF < _; omega)).trans y2, (hxb.cell (p := ⟨gP, 0, none⟩) (by show gP < _; omega)).trans y3, (hxb.cell (p := ⟨gP, 1, none⟩) (by show gP < _; omega)).trans y4, (hxb.cell (p := ⟨gP, 2, none⟩) (by show gP < _; omega)).trans y5⟩
    clear hK K
    try simp only [Act.put, List.setIfInBounds_toArray, List.set_cons_zero, List.set_cons_succ]
    have OLb := Lib.hid (own_below O8.out hwab)
    have Wb : Hid (∀ x ∈ L8, x ∈ l ∨ (wb.ownsRow (gX + 4) 5 1 (.slice x.p.A x.p.p.b.length x.p.c) x.p.p.b.length (x.p.p.b.map byw) ∧ ∀ y ∈ x.p.p.b, y < 256)) := Lib.hid (fun x hx => (W8.out x hx).imp id (fun h => ⟨own_below h.1 hwab, h.2⟩))
    have Ob := Lib.hid (own_more o5 hz8)
    clear o5 g5 b5 hwab
    refine takeD (i := 16) (oi := _) (v := ?vv24) (d := some 69) rfl (by kernel_rfl) (by kernel_rfl) (by kernel_rfl) (by kernel_rfl) (fun _ _ _ h => h) (Or.inl ⟨by kernel_rfl, ?_⟩) (by assumption) ?_
    rotate_left 1
    · intro W_ hSw; (try dsimp only at hSw); go_simp; (first | done | with_reducible rfl)
    try simp only [Act.put, List.setIfInBounds_toArray, List.set_cons_zero, List.set_cons_succ]
    refine takeD (i := 17) (oi := _) (v := ?vv25) (d := some 70) rfl (by kernel_rfl) (by kernel_rfl) (by kernel_rfl) (by kernel_rfl) (fun _ _ _ h => h) (Or.inl ⟨by kernel_rfl, ?_⟩) (by assumption) ?_
    rotate_left 1
    · intro W_ hSw; (try dsimp only at hSw); go_simp; (first | done | with_reducible rfl)
    try simp only [Act.put, List.setIfInBounds_toArray, List.set_cons_zero, List.set_cons_succ]
    refine wpAnyH_ready (rs := [18]) (by kernel_rfl) (by simp) ?_
    refine AllReadyH.cons (o := _) rfl (fun K hK => ?_) AllReadyH.nil
    go_simp
    obtain ⟨wc, hwc⟩ : ∃ q, q = wb.alloc (.cells #[.int .i64 (t2 : Int), .int .i64 (ns : Int), .bool up, .slice A9 m c9] 67) := ⟨_, rfl⟩
    rw [← hwc]
    have hxc : Below (gX + 4) w8 wc := by rw [hwc]; exact hxb.alloc (by have := hxb.size; omega) _
    have Hwc := Lib.hid hwc
    clear hwc
    refine hK.out _ _ ?_ (fun hHeld => ?_)
    · exact ⟨(hxc.cell (p := ⟨gX, 1, none⟩) (by show gX < _; omega)).trans y1, (hxc.cell (p := ⟨gF, 3, none⟩) (by show gF < _; omega)).trans y2, (hxc.cell (p := ⟨gP, 0, none⟩) (by show gP < _; omega)).trans y3, (hxc.cell (p := ⟨gP, 1, none⟩) (by show gP < _; omega)).trans y4, (hxc.cell (p := ⟨gP, 2, none⟩) (by show gP < _; omega)).trans y5⟩
    clear hK K
    try simp only [Act.put, List.setIfInBounds_toArray, List.set_cons_zero, List.set_cons_succ]
    have hbc : Below wb.heap.size wb wc := by rw [Hwc.out]; exact bel_alloc (Below.refl _ _) _
    have OLc := Lib.hid (own_below OLb.out hbc)
    have Wc : Hid (∀ x ∈ L8, x ∈ l ∨ (wc.ownsRow (gX + 4) 5 1 (.slice x.p.A x.p.p.b.length x.p.c) x.p.p.b.length (x.p.p.b.map byw) ∧ ∀ y ∈ x.p.p.b, y < 256)) := Lib.hid (fun x hx => (Wb.out x hx).imp id (fun h => ⟨own_below h.1 hbc, h.2⟩))
    have Oc := Lib.hid (own_below Ob.out hbc)
    have LIT : Hid (Recs wyF 4 wc (wb.heap.size + 1) (some ⟨wb.heap.size, 0, none⟩) [⟨t2, ⟨⟨(ns : Int), up, by_⟩, A9, c9⟩⟩]) := Lib.hid (by rw [Hwc.out]; exact Recs.lits (f := wyF) (s := 4) (fun _ => rfl) (by decide) wb _ _ _ _ _ (by show [Value.int .i64 (t2 : Int), .int .i64 (ns : Int), .bool up, .slice A9 m c9] = [Value.int .i64 (t2 : Int), .int .i64 (ns : Int), .bool up, .slice A9 by_.length c9]; rw [HM.out]) rfl (Nat.lt_succ_self _))
    have hzc : gX + 4 ≤ wc.heap.size := Nat.le_trans hz8 hxc.size
    clear hbc OLb Wb Ob
    refine wpAnyH_ready (rs := [19]) (by kernel_rfl) (by simp) ?_
    refine AllReadyH.cons (o := _) rfl (fun K hK => ?_) AllReadyH.nil
    (refine step_append_recs (f := wyF) (s := 4) _ (by rfl) (.tmp 53) (.tmp 71) 31 (by rfl) (fun _ => rfl) (by decide) wyF_one (gX + 4) 67 iW _ 48 Try.underlying31 hifW hw0_ hw1_ hw2_ (by decide) rfl (.slice A8 (nw + 1) c8) L8 (by rfl) (by rw [N8.out]; exact OLc.out) (wb.heap.size + 1) (some ⟨wb.heap.size, 0, none⟩) [⟨t2, ⟨⟨(ns : Int), up, by_⟩, A9, c9⟩⟩] 1 1 rfl (by rfl) LIT.out (by simp) (by rw [N8.out]; omega) hzc ?_)
    intro AZ cZ wz o6 g6 b6
    have hxz : Below (gX + 4) w8 wz := hxc.trans b6
    refine hK.out _ _ ?_ (fun hHeld => ?_)
    · exact ⟨(hxz.cell (p := ⟨gX, 1, none⟩) (by show gX < _; omega)).trans y1, (hxz.cell (p := ⟨gF, 3, none⟩) (by show gF < _; omega)).trans y2, (hxz.cell (p := ⟨gP, 0, none⟩) (by show gP < _; omega)).trans y3, (hxz.cell (p := ⟨gP, 1, none⟩) (by show gP < _; omega)).trans y4, (hxz.cell (p := ⟨gP, 2, none⟩) (by show gP < _; omega)).trans y5⟩
    clear hK K
    try simp only [Act.put, List.setIfInBounds_toArray, List.set_cons_zero, List.set_cons_succ]
    refine takeD (i := 20) (oi := _) (v := ?vv26) (d := some 7) rfl (by kernel_rfl) (by kernel_rfl) (by kernel_rfl) (by kernel_rfl) (fun _ _ _ h => h) (Or.inl ⟨by kernel_rfl, ?_⟩) (by assumption) ?_
    rotate_left 1
    · intro W_ hSw; (try dsimp only at hSw); go_simp; (first | done | with_reducible rfl)
    try simp only [Act.put, List.setIfInBounds_toArray, List.set_cons_zero, List.set_cons_succ]
    refine wpAnyH_done (by kernel_rfl) ?_ _
    have hlen : (L8 ++ [(⟨t2, ⟨⟨(ns : Int), up, by_⟩, A9, c9⟩⟩ : Wy)]).length = nw + 1 + 1 := by rw [List.length_append, N8.out]; rfl
    rw [hlen] at o6
    try rw [hlen]
    try rw [N8.out]
    obtain ⟨LZ, hLZ⟩ : ∃ L, L8 ++ [(⟨t2, ⟨⟨(ns : Int), up, by_⟩, A9, c9⟩⟩ : Wy)] = L := ⟨_, rfl⟩
    rw [hLZ] at o6 hlen
    have OZ_ := Lib.hid o6
    have NZ := Lib.hid hlen
    have Ocz := Lib.hid (own_grown_w Oc.out g6 (own_ne_w Oc.out OLc.out (by decide)))
    have WZ_ : Hid (∀ x ∈ LZ, x ∈ l ∨ (wz.ownsRow (gX + 4) 5 1 (.slice x.p.A x.p.p.b.length x.p.c) x.p.p.b.length (x.p.p.b.map byw) ∧ ∀ y ∈ x.p.p.b, y < 256)) := Lib.hid (fun x hx => by
      rw [← hLZ] at hx
      rcases List.mem_append.1 hx with hx | hx
      · exact (Wc.out x hx).imp id (fun h => ⟨own_grown_w h.1 g6 (own_ne_w h.1 OLc.out (by decide)), h.2⟩)
      · obtain rfl := List.mem_singleton.1 hx
        refine .inr ⟨?_, HU.out⟩
        show wz.ownsRow (gX + 4) 5 1 (.slice A9 by_.length c9) by_.length (by_.map byw)
        rw [HM.out]
        exact Ocz.out)
    have VZ : Hid (LZ.map (fun x => (x.t, x.p.p)) = b.l ++ (t1, ⟨(ns : Int), up, B1⟩) :: (if true = true then [(t2, ⟨(ns : Int), up, by_⟩)] else [])) := Lib.hid (by rw [← hLZ, List.map_append, HM8.out]; simp)
    replace RX := Lib.hid (show RowAt wz gX 33 (rbC (some ⟨br, orr, none⟩) n0 c0 (b.time : Int) Aw nw cw) from (hxz.block _ (by omega)).trans RX.out)
    replace RR := Lib.hid (show RowAt wz gR 33 (rbC none 0 0 0 none 0 0) from (hxz.block _ (by omega)).trans RR.out)
    replace B0 := Lib.hid (B0.out.trans (hxz.mono (by have := HGX.out; omega)))
    have hzz : gX + 4 ≤ wz.heap.size := Nat.le_trans hz8 hxz.size
    clear y1 y2 y3 y4 y5 j1 j2 j3 j4 j5 hlen hLZ o6 g6 b6 hxz hxa hxb hxc Oc OLc Wc LIT hzc Ocz W8 O8 hHeld
    go_upto_region 10 with fail
    have x2 : wz.cell? ⟨gX, 2, none⟩ = some (.slice Aw nw cw) := RX.out.cells 2
    have fx := RX.out.frozen 2
    have ltX := RX.out.lt
    go_upto_region 11 with fail
    obtain ⟨wa_, hwa_⟩ : ∃ w_q_, w_q_ = wz.setCell ⟨gX, 2, none⟩ (.slice AZ (nw + 1 + 1) cZ) := ⟨_, rfl⟩
    rw [← hwa_]
    have ka : Only gX wz wa_ := by rw [hwa_]; exact (Only.refl _ _).set _
    have RA : Hid (RowAt wa_ gX 33 (rbC (some ⟨br, orr, none⟩) n0 c0 (b.time : Int) AZ (nw + 1 + 1) cZ)) := Lib.hid (by rw [hwa_]; exact RX.out.set 2 _)
    replace RR := Lib.hid (RR.out.only ka (by omega))
    replace B0 := Lib.hid (ka.to B0.out (by have := HGX.out; omega))
    have OA := Lib.hid (own_only_w ka OZ_.out (by omega))
    have WA : Hid (∀ x ∈ LZ, x ∈ l ∨ (wa_.ownsRow (gX + 4) 5 1 (.slice x.p.A x.p.p.b.length x.p.c) x.p.p.b.length (x.p.p.b.map byw) ∧ ∀ y ∈ x.p.p.b, y < 256)) := Lib.hid (fun x hx => (WZ_.out x hx).imp id (fun h => ⟨own_only_w ka h.1 (by omega), h.2⟩))
    clear hwa_ ka x2 fx ltX RX
    go_wp2_with (first | (refine wpList_load_var rfl 33 (.tmp 3) rfl gX rfl _ _ 3 RA.out Try.underlying33 rfl size_rbus rfl ?_) | (refine wpList_store_var rfl 33 (.tmp 6) (.tmp 75) rfl gR _ (rbC (some ⟨br, orr, none⟩) n0 c0 (b.time : Int) AZ (nw + 1 + 1) cZ) 3 rfl rfl RR.out size_rbus rfl rfl (rbC_one _ _ _ _ _ _ _) ?_; intro w7 r7 k7; have R7 := Lib.hid r7; have K7 := Lib.hid k7; clear r7 k7))
    refine bodyPost_ret (results_cell_row rfl _ _ gR 33 _ (0, 0) _ rfl R7.out Try.underlying33 rfl (by rw [size_rbus]; rfl)) rfl ?_
    have B7 := K7.out.to B0.out (by have := HGX.out; omega)
    have OZ := own_only_w K7.out OA.out (by omega)
    have hW := HB.out.ways.to B7
    have WZ : ∀ x ∈ LZ, Sq byw w7 w7.heap.size x.p.A x.p.p.b ∧ (∀ y ∈ x.p.p.b, y < 256) ∧ (x.p.A = none → x.p.c = 0) := fun x hx => by
      rcases WA.out x hx with hx | ⟨ho, h2⟩
      · exact ⟨hW.byt x hx, hW.u x hx, hW.nl x hx⟩
      · have h9 := own_only_w K7.out ho (by omega)
        exact ⟨Sq.of_own h9, h2, (own_nil_c h9).1⟩
    refine ⟨AZ, (nw + 1 + 1), cZ, LZ, rfl, ⟨?_, ⟨Recs.of_own (f := wyF) (s := 4) (fun _ => rfl) (by decide) OZ, fun x hx => (WZ x hx).1, fun x hx => (WZ x hx).2.1, fun x hx => (WZ x hx).2.2⟩, NZ.out, fun e => ((own_nil_s OZ).1 e).1, ?_⟩, B7, Lib.hid (fun F hF ho => ⟨fun hn p hp hm => ?_, fun x hx hn p hp hm => ?_⟩)⟩
    · rw [HBV.out]; exact (HB.out.rtu.below B7).more B7.size
    · rw [HBV.out]; exact VZ.out
    · have h1 := (own_at_s OZ p hp).1
      have h2 := hF _ hm
      have := HGX.out
      omega
    · rcases WA.out x hx with hx | ⟨hw, _⟩
      · exact ho.2 x hx hn p hp hm
      · have h1 := (own_at_s hw p hp).1
        have h2 := hF _ hm
        have := HGX.out
        omega
end Go.Proofs.Ythigkmoilfdciaa
