/- Layer 11: awake, its walk. -/
import Derived.Test.YthigkmoilfdciaaBuAwk
namespace Go.Proofs.Ythigkmoilfdciaa
open Go.RowKit
set_option linter.unusedVariables false
set_option linter.unusedSimpArgs false
attribute [local go_sem] Later.cell Later.frozen setCell_twice
theorem bool2 {w : World} {g : Nat} (h : RowAt w g 4 [.bool true, .bool false]) : Sq Value.bool w w.heap.size (some ⟨g, 0, none⟩) [true, false] := fun _ => ⟨g, 0, rfl, h.lt, fun j v hj => by
  rw [Nat.zero_add, h.cells j]
  match j, hj with
  | 0, hj => obtain rfl := Option.some.inj hj; rfl
  | 1, hj => obtain rfl := Option.some.inj hj; rfl
  | j + 2, hj => simp at hj⟩
set_option maxRecDepth 100000 in
set_option maxHeartbeats 4000000 in
theorem awake_any (w : World) : Calls Try.prog 9 #[] w fun e w' => e = .returned (.bool true) ∧ Below w.heap.size w w' := by
  go_enter Try.func9, Try.ntmps9
  go_wp2_with fail
  have b0 : Below w.heap.size w (w.alloc (.cells #[.bool true, .bool false] 4)) := bel_alloc (Below.refl _ _) _
  have S0 := Lib.hid (bool2 (RowAt.new w 4 [.bool true, .bool false]))
  have B0 := Lib.hid b0
  generalize w.alloc (.cells #[.bool true, .bool false] 4) = w0 at *
  (with_reducible refine (new_yes _ [true, false] 2 2 w0 S0.out rfl (by decide) (by decide)).mono ?_)
  rintro e w1 ⟨gs, gm, rg, rc, rfl, h1, b1⟩
  have H1 := Lib.hid (show BusAt w1 w0.heap.size gs gm rg rc aw0 [] from h1)
  have B1 := Lib.hid (B0.out.trans (b1.mono B0.out.size))
  have hw01 := b1.size
  have BZ : Hid (w.heap.size ≤ w0.heap.size) := Lib.hid B0.out.size
  clear b0 b1 h1 S0 B0
  go_upto_region 4 with fail
  have v2 : AwV _ w1.heap.size (w1.heap.size + 1 + 1 + 1) (w1.heap.size + 1 + 1 + 1 + 1) (w1.heap.size + 1) (w1.heap.size + 1 + 1) := ⟨((((RowAt.new w1 39 [.bool false, .bool true, .int .u8 1, .int .u8 0, .int .u16 8, .int .u16 3]).alloc (.cells #[.int .u8 5, .int .u8 6] 5)).alloc (.cells #[.int .u8 5, .int .u8 6] 5)).alloc (.cells #[.int .i64 0, .bool false, .slice (some ⟨w1.heap.size + 1, 0, none⟩) 2 2] 36)).alloc (.cells #[.int .i64 1, .bool false, .slice (some ⟨w1.heap.size + 1 + 1, 0, none⟩) 2 2] 36), (RowAt.new' _ _ _ _ (by simp)).alloc _, RowAt.new' _ _ _ _ (by simp), (((RowAt.new' _ _ _ _ (by simp)).alloc _).alloc _).alloc _, ((RowAt.new' _ _ _ _ (by simp)).alloc _).alloc _⟩
  obtain ⟨W2, hW2⟩ : ∃ W2, ((((w1.alloc (.cells #[.bool false, .bool true, .int .u8 1, .int .u8 0, .int .u16 8, .int .u16 3] 39)).alloc (.cells #[.int .u8 5, .int .u8 6] 5)).alloc (.cells #[.int .u8 5, .int .u8 6] 5)).alloc (.cells #[.int .i64 0, .bool false, .slice (some ⟨w1.heap.size + 1, 0, none⟩) 2 2] 36)).alloc (.cells #[.int .i64 1, .bool false, .slice (some ⟨w1.heap.size + 1 + 1, 0, none⟩) 2 2] 36) = W2 := ⟨_, rfl⟩
  have b2 : Below w1.heap.size w1 W2 := by rw [← hW2]; exact bel_alloc (bel_alloc (bel_alloc (bel_alloc (bel_alloc (Below.refl _ _) _) _) _) _) _
  have hz2 : w1.heap.size + 5 ≤ W2.heap.size := by rw [← hW2]; simp
  rw [hW2] at v2 ⊢
  clear hW2
  obtain ⟨gf, hgf⟩ : ∃ gf, w1.heap.size = gf := ⟨_, rfl⟩
  obtain ⟨g5, hg5⟩ : ∃ g5, gf + 1 = g5 := ⟨_, rfl⟩
  obtain ⟨g6, hg6⟩ : ∃ g6, g5 + 1 = g6 := ⟨_, rfl⟩
  obtain ⟨ga, hga⟩ : ∃ ga, g6 + 1 = ga := ⟨_, rfl⟩
  obtain ⟨gb, hgb⟩ : ∃ gb, ga + 1 = gb := ⟨_, rfl⟩
  have HF1 : Hid (∀ x, x ∈ bfoot gs gm rg [] → x < gf) := Lib.hid (fun x hx => by rw [← hgf]; exact (H1.out.foot_ge x hx).2)
  have H2 := Lib.hid (H1.out.to b2)
  have B2 := Lib.hid (B1.out.trans (b2.mono B1.out.size))
  rw [hgf, hg5, hg6, hga, hgb] at v2 ⊢
  obtain ⟨gN, hgN⟩ : ∃ gN, W2.heap.size = gN := ⟨_, rfl⟩
  have hle : gf < g5 ∧ g5 < g6 ∧ g6 < ga ∧ ga < gb ∧ gb < gN := by omega
  have HLE := Lib.hid hle
  have V2 := Lib.hid v2
  have HGN := Lib.hid hgN
  have HB0 : Hid (w0.heap.size ≤ gf) := Lib.hid (by omega)
  have FT2 : Hid (∀ x, x ∈ bfoot gs gm rg [] → x < gf ∨ gN ≤ x) := Lib.hid (fun x hx => .inl (HF1.out x hx))
  clear b2 v2 H1 B1 hw01 hz2 hgf hg5 hg6 hga hgb hgN hle HF1
  have GE2 : Hid (gN ≤ W2.heap.size) := Lib.hid (by rw [HGN.out]; exact Nat.le_refl _)
  have RF2 := Lib.hid V2.out.f
  have RA2 := Lib.hid V2.out.a
  have RB2 := Lib.hid V2.out.b
  have flt : gf < (W2).heap.size := RF2.out.lt
  have flu : gf < (W2).heap.size + 1 := Nat.lt_succ_of_lt RF2.out.lt
  have f0 : (W2).cell? ⟨gf, 0, none⟩ = some (.bool false) := RF2.out.cells 0
  have fz0 : (W2).frozen? ⟨gf, 0, none⟩ = false := RF2.out.frozen 0
  have f1 : (W2).cell? ⟨gf, 1, none⟩ = some (.bool true) := RF2.out.cells 1
  have fz1 : (W2).frozen? ⟨gf, 1, none⟩ = false := RF2.out.frozen 1
  have f2 : (W2).cell? ⟨gf, 2, none⟩ = some (.int .u8 1) := RF2.out.cells 2
  have fz2 : (W2).frozen? ⟨gf, 2, none⟩ = false := RF2.out.frozen 2
  have f3 : (W2).cell? ⟨gf, 3, none⟩ = some (.int .u8 0) := RF2.out.cells 3
  have fz3 : (W2).frozen? ⟨gf, 3, none⟩ = false := RF2.out.frozen 3
  have f4 : (W2).cell? ⟨gf, 4, none⟩ = some (.int .u16 8) := RF2.out.cells 4
  have fz4 : (W2).frozen? ⟨gf, 4, none⟩ = false := RF2.out.frozen 4
  have f5 : (W2).cell? ⟨gf, 5, none⟩ = some (.int .u16 3) := RF2.out.cells 5
  have fz5 : (W2).frozen? ⟨gf, 5, none⟩ = false := RF2.out.frozen 5
  have plt : ga < (W2).heap.size := RA2.out.lt
  have plu : ga < (W2).heap.size + 1 := Nat.lt_succ_of_lt RA2.out.lt
  have p0 : (W2).cell? ⟨ga, 0, none⟩ = some (.int .i64 0) := RA2.out.cells 0
  have pz0 : (W2).frozen? ⟨ga, 0, none⟩ = false := RA2.out.frozen 0
  have p1 : (W2).cell? ⟨ga, 1, none⟩ = some (.bool false) := RA2.out.cells 1
  have pz1 : (W2).frozen? ⟨ga, 1, none⟩ = false := RA2.out.frozen 1
  have p2 : (W2).cell? ⟨ga, 2, none⟩ = some (.slice (some ⟨g5, 0, none⟩) 2 2) := RA2.out.cells 2
  have pz2 : (W2).frozen? ⟨ga, 2, none⟩ = false := RA2.out.frozen 2
  have qlt : gb < (W2).heap.size := RB2.out.lt
  have qlu : gb < (W2).heap.size + 1 := Nat.lt_succ_of_lt RB2.out.lt
  have q0 : (W2).cell? ⟨gb, 0, none⟩ = some (.int .i64 1) := RB2.out.cells 0
  have qz0 : (W2).frozen? ⟨gb, 0, none⟩ = false := RB2.out.frozen 0
  have q1 : (W2).cell? ⟨gb, 1, none⟩ = some (.bool false) := RB2.out.cells 1
  have qz1 : (W2).frozen? ⟨gb, 1, none⟩ = false := RB2.out.frozen 1
  have q2 : (W2).cell? ⟨gb, 2, none⟩ = some (.slice (some ⟨g6, 0, none⟩) 2 2) := RB2.out.cells 2
  have qz2 : (W2).frozen? ⟨gb, 2, none⟩ = false := RB2.out.frozen 2
  go_wp2_with fail
  (with_reducible refine (aw_send1 H2.out (by have := HB0.out; have := V2.out.f.lt; omega) V2.out.ab (fun hm => by have := HLE.out; have := FT2.out _ hm; omega)).mono ?_)
  rintro e w3 ⟨E3, rfl, h, f, t⟩
  have H3 := Lib.hid h
  have V3 := Lib.hid (V2.out.fr f (fun x hx => by have h1 := HLE.out; have h2 := FT2.out x hx; omega))
  have FT3 : Hid (∀ x, x ∈ bfoot gs gm rg E3 → x < gf ∨ gN ≤ x) := Lib.hid (fun x hx => by
    rcases t x hx with h1 | h1
    · exact FT2.out x h1
    · have := GE2.out; exact .inr (by omega))
  have GE3 : Hid (gN ≤ w3.heap.size) := Lib.hid (Nat.le_trans GE2.out f.size)
  have B3 := Lib.hid (B2.out.trans (f.below (B := w.heap.size) (fun x hx => by have := (H2.out.foot_ge x hx).1; have := BZ.out; omega) B2.out.size))
  clear h f t H2 V2 FT2 GE2 B2 RF2 RA2 RB2 f0 f1 f2 f3 f4 f5 fz0 fz1 fz2 fz3 fz4 fz5 flt flu p0 p1 p2 pz0 pz1 pz2 plt plu q0 q1 q2 qz0 qz1 qz2 qlt qlu
  have RF3 := Lib.hid V3.out.f
  have RA3 := Lib.hid V3.out.a
  have RB3 := Lib.hid V3.out.b
  have flt : gf < (w3).heap.size := RF3.out.lt
  have flu : gf < (w3).heap.size + 1 := Nat.lt_succ_of_lt RF3.out.lt
  have f0 : (w3).cell? ⟨gf, 0, none⟩ = some (.bool false) := RF3.out.cells 0
  have fz0 : (w3).frozen? ⟨gf, 0, none⟩ = false := RF3.out.frozen 0
  have f1 : (w3).cell? ⟨gf, 1, none⟩ = some (.bool true) := RF3.out.cells 1
  have fz1 : (w3).frozen? ⟨gf, 1, none⟩ = false := RF3.out.frozen 1
  have f2 : (w3).cell? ⟨gf, 2, none⟩ = some (.int .u8 1) := RF3.out.cells 2
  have fz2 : (w3).frozen? ⟨gf, 2, none⟩ = false := RF3.out.frozen 2
  have f3 : (w3).cell? ⟨gf, 3, none⟩ = some (.int .u8 0) := RF3.out.cells 3
  have fz3 : (w3).frozen? ⟨gf, 3, none⟩ = false := RF3.out.frozen 3
  have f4 : (w3).cell? ⟨gf, 4, none⟩ = some (.int .u16 8) := RF3.out.cells 4
  have fz4 : (w3).frozen? ⟨gf, 4, none⟩ = false := RF3.out.frozen 4
  have f5 : (w3).cell? ⟨gf, 5, none⟩ = some (.int .u16 3) := RF3.out.cells 5
  have fz5 : (w3).frozen? ⟨gf, 5, none⟩ = false := RF3.out.frozen 5
  have plt : ga < (w3).heap.size := RA3.out.lt
  have plu : ga < (w3).heap.size + 1 := Nat.lt_succ_of_lt RA3.out.lt
  have p0 : (w3).cell? ⟨ga, 0, none⟩ = some (.int .i64 0) := RA3.out.cells 0
  have pz0 : (w3).frozen? ⟨ga, 0, none⟩ = false := RA3.out.frozen 0
  have p1 : (w3).cell? ⟨ga, 1, none⟩ = some (.bool false) := RA3.out.cells 1
  have pz1 : (w3).frozen? ⟨ga, 1, none⟩ = false := RA3.out.frozen 1
  have p2 : (w3).cell? ⟨ga, 2, none⟩ = some (.slice (some ⟨g5, 0, none⟩) 2 2) := RA3.out.cells 2
  have pz2 : (w3).frozen? ⟨ga, 2, none⟩ = false := RA3.out.frozen 2
  have qlt : gb < (w3).heap.size := RB3.out.lt
  have qlu : gb < (w3).heap.size + 1 := Nat.lt_succ_of_lt RB3.out.lt
  have q0 : (w3).cell? ⟨gb, 0, none⟩ = some (.int .i64 1) := RB3.out.cells 0
  have qz0 : (w3).frozen? ⟨gb, 0, none⟩ = false := RB3.out.frozen 0
  have q1 : (w3).cell? ⟨gb, 1, none⟩ = some (.bool false) := RB3.out.cells 1
  have qz1 : (w3).frozen? ⟨gb, 1, none⟩ = false := RB3.out.frozen 1
  have q2 : (w3).cell? ⟨gb, 2, none⟩ = some (.slice (some ⟨g6, 0, none⟩) 2 2) := RB3.out.cells 2
  have qz2 : (w3).frozen? ⟨gb, 2, none⟩ = false := RB3.out.frozen 2
  go_wp2_with fail
  (with_reducible refine (aw_send2 H3.out (by have := HB0.out; have := V3.out.f.lt; omega) V3.out.bb (fun hm => by have := HLE.out; have := FT3.out _ hm; omega)).mono ?_)
  rintro e w4 ⟨E4, rfl, h, f, t⟩
  have H4 := Lib.hid h
  have V4 := Lib.hid (V3.out.fr f (fun x hx => by have h1 := HLE.out; have h2 := FT3.out x hx; omega))
  have FT4 : Hid (∀ x, x ∈ bfoot gs gm rg E4 → x < gf ∨ gN ≤ x) := Lib.hid (fun x hx => by
    rcases t x hx with h1 | h1
    · exact FT3.out x h1
    · have := GE3.out; exact .inr (by omega))
  have GE4 : Hid (gN ≤ w4.heap.size) := Lib.hid (Nat.le_trans GE3.out f.size)
  have B4 := Lib.hid (B3.out.trans (f.below (B := w.heap.size) (fun x hx => by have := (H3.out.foot_ge x hx).1; have := BZ.out; omega) B3.out.size))
  clear h f t H3 V3 FT3 GE3 B3 RF3 RA3 RB3 f0 f1 f2 f3 f4 f5 fz0 fz1 fz2 fz3 fz4 fz5 flt flu p0 p1 p2 pz0 pz1 pz2 plt plu q0 q1 q2 qz0 qz1 qz2 qlt qlu
  have RF4 := Lib.hid V4.out.f
  have RA4 := Lib.hid V4.out.a
  have RB4 := Lib.hid V4.out.b
  have flt : gf < (w4).heap.size := RF4.out.lt
  have flu : gf < (w4).heap.size + 1 := Nat.lt_succ_of_lt RF4.out.lt
  have f0 : (w4).cell? ⟨gf, 0, none⟩ = some (.bool false) := RF4.out.cells 0
  have fz0 : (w4).frozen? ⟨gf, 0, none⟩ = false := RF4.out.frozen 0
  have f1 : (w4).cell? ⟨gf, 1, none⟩ = some (.bool true) := RF4.out.cells 1
  have fz1 : (w4).frozen? ⟨gf, 1, none⟩ = false := RF4.out.frozen 1
  have f2 : (w4).cell? ⟨gf, 2, none⟩ = some (.int .u8 1) := RF4.out.cells 2
  have fz2 : (w4).frozen? ⟨gf, 2, none⟩ = false := RF4.out.frozen 2
  have f3 : (w4).cell? ⟨gf, 3, none⟩ = some (.int .u8 0) := RF4.out.cells 3
  have fz3 : (w4).frozen? ⟨gf, 3, none⟩ = false := RF4.out.frozen 3
  have f4 : (w4).cell? ⟨gf, 4, none⟩ = some (.int .u16 8) := RF4.out.cells 4
  have fz4 : (w4).frozen? ⟨gf, 4, none⟩ = false := RF4.out.frozen 4
  have f5 : (w4).cell? ⟨gf, 5, none⟩ = some (.int .u16 3) := RF4.out.cells 5
  have fz5 : (w4).frozen? ⟨gf, 5, none⟩ = false := RF4.out.frozen 5
  have plt : ga < (w4).heap.size := RA4.out.lt
  have plu : ga < (w4).heap.size + 1 := Nat.lt_succ_of_lt RA4.out.lt
  have p0 : (w4).cell? ⟨ga, 0, none⟩ = some (.int .i64 0) := RA4.out.cells 0
  have pz0 : (w4).frozen? ⟨ga, 0, none⟩ = false := RA4.out.frozen 0
  have p1 : (w4).cell? ⟨ga, 1, none⟩ = some (.bool false) := RA4.out.cells 1
  have pz1 : (w4).frozen? ⟨ga, 1, none⟩ = false := RA4.out.frozen 1
  have p2 : (w4).cell? ⟨ga, 2, none⟩ = some (.slice (some ⟨g5, 0, none⟩) 2 2) := RA4.out.cells 2
  have pz2 : (w4).frozen? ⟨ga, 2, none⟩ = false := RA4.out.frozen 2
  have qlt : gb < (w4).heap.size := RB4.out.lt
  have qlu : gb < (w4).heap.size + 1 := Nat.lt_succ_of_lt RB4.out.lt
  have q0 : (w4).cell? ⟨gb, 0, none⟩ = some (.int .i64 1) := RB4.out.cells 0
  have qz0 : (w4).frozen? ⟨gb, 0, none⟩ = false := RB4.out.frozen 0
  have q1 : (w4).cell? ⟨gb, 1, none⟩ = some (.bool false) := RB4.out.cells 1
  have qz1 : (w4).frozen? ⟨gb, 1, none⟩ = false := RB4.out.frozen 1
  have q2 : (w4).cell? ⟨gb, 2, none⟩ = some (.slice (some ⟨g6, 0, none⟩) 2 2) := RB4.out.cells 2
  have qz2 : (w4).frozen? ⟨gb, 2, none⟩ = false := RB4.out.frozen 2
  go_wp2_with fail
  (with_reducible refine (aw_send3 H4.out (by have := HB0.out; have := V4.out.f.lt; omega) V4.out.ab (fun hm => by have := HLE.out; have := FT4.out _ hm; omega)).mono ?_)
  rintro e w5 ⟨E5, rfl, h, f, t⟩
  have H5 := Lib.hid h
  have V5 := Lib.hid (V4.out.fr f (fun x hx => by have h1 := HLE.out; have h2 := FT4.out x hx; omega))
  have FT5 : Hid (∀ x, x ∈ bfoot gs gm rg E5 → x < gf ∨ gN ≤ x) := Lib.hid (fun x hx => by
    rcases t x hx with h1 | h1
    · exact FT4.out x h1
    · have := GE4.out; exact .inr (by omega))
  have GE5 : Hid (gN ≤ w5.heap.size) := Lib.hid (Nat.le_trans GE4.out f.size)
  have B5 := Lib.hid (B4.out.trans (f.below (B := w.heap.size) (fun x hx => by have := (H4.out.foot_ge x hx).1; have := BZ.out; omega) B4.out.size))
  clear h f t H4 V4 FT4 GE4 B4 RF4 RA4 RB4 f0 f1 f2 f3 f4 f5 fz0 fz1 fz2 fz3 fz4 fz5 flt flu p0 p1 p2 pz0 pz1 pz2 plt plu q0 q1 q2 qz0 qz1 qz2 qlt qlu
  go_wp2_with fail
  (with_reducible refine (aw_wait4 H5.out).mono ?_)
  rintro e w6 ⟨rfl, rfl⟩
  go_upto_region 6 with fail
  have bd : Below w5.heap.size w5 w5.drew := (Below.refl _ _).drew
  have v5 := V5.out
  refine wp_region_held_drew (S := (fun w' => AwV w' gf ga gb g5 g6)) (by kernel_rfl) ?_ (fun hHeld => ?_)
  · exact v5.to bd
  have HD := Lib.hid (H5.out.to bd)
  have VD := Lib.hid (V5.out.to bd)
  have BD := Lib.hid (B5.out.trans (bd.mono B5.out.size))
  have GD : Hid (gN ≤ w5.drew.heap.size) := Lib.hid GE5.out
  generalize w5.drew = wd at *
  clear bd v5 H5 V5 B5 GE5
  refine takeD (i := 0) (oi := _) (v := ?vv1) (d := some 44) rfl (by kernel_rfl) (by kernel_rfl) (by kernel_rfl) (by kernel_rfl) (fun _ _ _ h => h) (Or.inl ⟨by kernel_rfl, ?_⟩) (by assumption) ?_
  rotate_left 1
  · intro W_ hSw; (try dsimp only at hSw); go_simp; (first | done | with_reducible rfl)
  try simp only [Act.put, List.setIfInBounds_toArray, List.set_cons_zero, List.set_cons_succ]
  refine takeD (i := 2) (oi := _) (v := _) (d := some 46) rfl (by kernel_rfl) (by kernel_rfl) (by kernel_rfl) (by kernel_rfl) (fun _ _ _ h => h) (yieldsIf_load_mid (by kernel_rfl) 36 (.tmp 4) (by kernel_rfl) ga 0 (by kernel_rfl) [.int .i64 0, .bool false, .slice (some ⟨g5, 0, none⟩) 2 2] _ (fun W h => h.a.all) Try.underlying36 rfl size_parc) (by assumption) ?_
  try simp only [Act.put, List.setIfInBounds_toArray, List.set_cons_zero, List.set_cons_succ]
  refine takeD (i := 3) (oi := _) (v := _) (d := some 47) rfl (by kernel_rfl) (by kernel_rfl) (by kernel_rfl) (by kernel_rfl) (fun _ _ _ h => h) (yieldsIf_load_mid (by kernel_rfl) 36 (.tmp 5) (by kernel_rfl) gb 0 (by kernel_rfl) [.int .i64 1, .bool false, .slice (some ⟨g6, 0, none⟩) 2 2] _ (fun W h => h.b.all) Try.underlying36 rfl size_parc) (by assumption) ?_
  try simp only [Act.put, List.setIfInBounds_toArray, List.set_cons_zero, List.set_cons_succ]
  have PQ : ∀ (W : World) (g : Nat), AwV W gf ga gb g5 g6 → RowAt W g 36 [.int .i64 0, .bool false, .slice (some ⟨g5, 0, none⟩) 2 2, .int .i64 1, .bool false, .slice (some ⟨g6, 0, none⟩) 2 2] → Pcs W W.heap.size (some ⟨g, 0, none⟩) [⟨paA, some ⟨g5, 0, none⟩, 2⟩, ⟨paB, some ⟨g6, 0, none⟩, 2⟩] := fun W g hV hr => two_pcs hr (two_bytes (x := 5) (y := 6) hV.ab) (two_bytes (x := 5) (y := 6) hV.bb) (by simp [paA]) (by simp [paB]) (by simp) (by simp)
  have HPQ := Lib.hid PQ
  have PQ2 : ∀ (W : World) (g g55 : Nat), AwV W gf ga gb g5 g6 → RowAt W g55 5 [.int .u8 5, .int .u8 5] → RowAt W g 36 [.int .i64 0, .bool false, .slice (some ⟨g55, 0, none⟩) 2 2, .int .i64 1, .bool false, .slice (some ⟨g6, 0, none⟩) 2 2] → Pcs W W.heap.size (some ⟨g, 0, none⟩) [⟨⟨0, false, [5, 5]⟩, some ⟨g55, 0, none⟩, 2⟩, ⟨paB, some ⟨g6, 0, none⟩, 2⟩] := fun W g g55 hV h5 hr => two_pcs hr (two_bytes (x := 5) (y := 5) h5) (two_bytes (x := 5) (y := 6) hV.bb) (by simp) (by simp [paB]) (by simp) (by simp)
  have HPQ2 := Lib.hid PQ2
  clear PQ PQ2
  refine wpAnyH_ready (rs := [1, 4]) (by kernel_rfl) (by simp) ?_
  refine AllReadyH.cons (o := _) rfl (fun K hK => ?_) (AllReadyH.cons (o := _) rfl (fun K hK => ?_) AllReadyH.nil)
  · go_simp
    (go_at_call 13; (with_reducible refine (aw_tick1 HD.out).mono ?_); rintro e wa ⟨E6, A, c, pl, rfl, h, f, t, pc, pn, pp⟩; have va := VD.out.fr f (fun x hx => by have h1 := HLE.out; have h2 := FT5.out x hx; omega))
    go_wp2_with fail
    refine hK.out _ _ ?_ (fun hHeld => ?_)
    · exact va
    clear hK K
    try simp only [Act.put, List.setIfInBounds_toArray, List.set_cons_zero, List.set_cons_succ]
    refine wpAnyH_ready (rs := [4]) (by kernel_rfl) (by simp) ?_
    refine AllReadyH.cons (o := _) rfl (fun K hK => ?_) AllReadyH.nil
    go_simp
    refine hK.out _ _ ?_ (fun hHeld => ?_)
    · exact va.to (bel_alloc (Below.refl _ _) _)
    clear hK K
    try simp only [Act.put]
    try simp only [List.setIfInBounds_toArray]
    try simp only [List.set_cons_succ]
    try simp only [List.set_cons_zero]
    obtain ⟨gL, hgL⟩ : ∃ gL, wa.heap.size = gL := ⟨_, rfl⟩
    obtain ⟨V, hV⟩ : ∃ V, wa.alloc (.cells #[.int .i64 0, .bool false, .slice (some ⟨g5, 0, none⟩) 2 2, .int .i64 1, .bool false, .slice (some ⟨g6, 0, none⟩) 2 2] 36) = V := ⟨_, rfl⟩
    have bV : Below wa.heap.size wa V := by rw [← hV]; exact bel_alloc (Below.refl _ _) _
    have rL : RowAt V gL 36 [.int .i64 0, .bool false, .slice (some ⟨g5, 0, none⟩) 2 2, .int .i64 1, .bool false, .slice (some ⟨g6, 0, none⟩) 2 2] := by rw [← hV, ← hgL]; exact RowAt.new _ _ _
    rw [hV, hgL]
    have H7 := Lib.hid (h.to bV)
    have V7 := Lib.hid (va.to bV)
    have PA := Lib.hid (pc.to bV)
    have PB := Lib.hid (HPQ.out V gL (va.to bV) rL)
    have PP := pp
    have FT6 : Hid (∀ x, x ∈ bfoot gs gm rg E6 → x < gf ∨ gN ≤ x) := Lib.hid (fun x hx => FT5.out x (t x hx))
    have B6 := BD.out.trans (f.below (B := w.heap.size) (fun x hx => by have := (HD.out.foot_ge x hx).1; have := BZ.out; omega) BD.out.size)
    have B7 := Lib.hid (B6.trans (bV.mono B6.size))
    have G7 : Hid (gN ≤ V.heap.size) := Lib.hid (Nat.le_trans GD.out (Nat.le_trans f.size bV.size))
    clear h f t pc pp va hgL hV bV rL B6 HD VD BD GD FT5
    refine wpAnyH_ready (rs := [5]) (by kernel_rfl) (by simp) ?_
    refine AllReadyH.cons (o := _) rfl (fun K hK => ?_) AllReadyH.nil
    go_simp
    (go_at_call 12; (with_reducible refine (psame_yes PA.out PB.out pn rfl PP (Lib.hid rfl)).mono ?_); rintro e wc ⟨rfl, bc⟩; have vc := V7.out.to bc)
    go_wp2_with fail
    refine hK.out _ _ ?_ (fun hHeld => ?_)
    · exact vc
    clear hK K
    try simp only [Act.put, List.setIfInBounds_toArray, List.set_cons_zero, List.set_cons_succ]
    have H8 := Lib.hid (H7.out.to bc)
    have V8 := Lib.hid vc
    have B8 := Lib.hid (B7.out.trans (bc.mono B7.out.size))
    have G8 : Hid (gN ≤ wc.heap.size) := Lib.hid (Nat.le_trans G7.out bc.size)
    clear bc vc PA PB pn PP H7 V7 B7 G7
    refine takeD (i := 6) (oi := _) (v := ?vv2) (d := some 50) rfl (by kernel_rfl) (by kernel_rfl) (by kernel_rfl) (by kernel_rfl) (fun _ _ _ h => h) (Or.inl ⟨by kernel_rfl, ?_⟩) (by assumption) ?_
    rotate_left 1
    · intro W_ hSw; (try dsimp only at hSw); go_simp; (first | done | with_reducible rfl)
    try simp only [Act.put, List.setIfInBounds_toArray, List.set_cons_zero, List.set_cons_succ]
    refine takeD (i := 7) (oi := _) (v := ?vv3) (d := some 51) rfl (by kernel_rfl) (by kernel_rfl) (by kernel_rfl) (by kernel_rfl) (fun _ _ _ h => h) (Or.inl ⟨by kernel_rfl, ?_⟩) (by assumption) ?_
    rotate_left 1
    · intro W_ hSw; (try dsimp only at hSw); go_simp; (first | done | with_reducible rfl)
    try simp only [Act.put, List.setIfInBounds_toArray, List.set_cons_zero, List.set_cons_succ]
    refine takeD (i := 11) (oi := _) (v := _) (d := some 55) rfl (by kernel_rfl) (by kernel_rfl) (by kernel_rfl) (by kernel_rfl) (fun _ _ _ h => h) (yieldsIf_load_mid (by kernel_rfl) 36 (.tmp 5) (by kernel_rfl) gb 0 (by kernel_rfl) [.int .i64 1, .bool false, .slice (some ⟨g6, 0, none⟩) 2 2] _ (fun W h => h.b.all) Try.underlying36 rfl size_parc) (by assumption) ?_
    try simp only [Act.put, List.setIfInBounds_toArray, List.set_cons_zero, List.set_cons_succ]
    refine wpAnyH_ready (rs := [8, 9]) (by kernel_rfl) (by simp) ?_
    refine AllReadyH.cons (o := _) rfl (fun K hK => ?_) (AllReadyH.cons (o := _) rfl (fun K hK => ?_) AllReadyH.nil)
    · go_simp
      (go_at_call 13; (with_reducible refine (aw_tick2 H8.out).mono ?_); rintro e wt ⟨E7, A2, c2, pl2, rfl, h, f, t, pc, pn2, pp⟩; have va := V8.out.fr f (fun x hx => by have h1 := HLE.out; have h2 := FT6.out x hx; omega))
      go_wp2_with fail
      refine hK.out _ _ ?_ (fun hHeld => ?_)
      · exact va
      clear hK K
      try simp only [Act.put, List.setIfInBounds_toArray, List.set_cons_zero, List.set_cons_succ]
      have Ha := Lib.hid h
      have Va := Lib.hid va
      have PA2 := Lib.hid pc
      have PP2 := pp
      have Ba := Lib.hid (B8.out.trans (f.below (B := w.heap.size) (fun x hx => by have := (H8.out.foot_ge x hx).1; have := BZ.out; omega) B8.out.size))
      clear h f t pc pp va H8 V8 B8 G8 FT6
      refine wpAnyH_ready (rs := [9]) (by kernel_rfl) (by simp) ?_
      refine AllReadyH.cons (o := _) rfl (fun K hK => ?_) AllReadyH.nil
      go_simp
      refine hK.out _ _ ?_ (fun hHeld => ?_)
      · exact Va.out.to (bel_alloc (Below.refl _ _) _)
      clear hK K
      try simp only [Act.put]
      try simp only [List.setIfInBounds_toArray]
      try simp only [List.set_cons_succ]
      try simp only [List.set_cons_zero]
      obtain ⟨g55, hg⟩ : ∃ g, wt.heap.size = g := ⟨_, rfl⟩
      obtain ⟨W1, hV⟩ : ∃ V, wt.alloc (.cells #[.int .u8 5, .int .u8 5] 5) = V := ⟨_, rfl⟩
      have bV : Below wt.heap.size wt W1 := by rw [← hV]; exact bel_alloc (Below.refl _ _) _
      have R55 := Lib.hid (show RowAt W1 g55 5 [.int .u8 5, .int .u8 5] by rw [← hV, ← hg]; exact RowAt.new _ _ _)
      rw [hV, hg]
      have Hb := Lib.hid (Ha.out.to bV)
      have Vb := Lib.hid (Va.out.to bV)
      have PA3 := Lib.hid (PA2.out.to bV)
      have Bb := Lib.hid (Ba.out.trans (bV.mono Ba.out.size))
      clear hV bV hg Ha Va PA2 Ba
      refine takeD (i := 10) (oi := _) (v := ?vv4) (d := some 54) rfl (by kernel_rfl) (by kernel_rfl) (by kernel_rfl) (by kernel_rfl) (fun _ _ _ h => h) (Or.inl ⟨by kernel_rfl, ?_⟩) (by assumption) ?_
      rotate_left 1
      · intro W_ hSw; (try dsimp only at hSw); go_simp; (first | done | with_reducible rfl)
      try simp only [Act.put, List.setIfInBounds_toArray, List.set_cons_zero, List.set_cons_succ]
      refine wpAnyH_ready (rs := [12]) (by kernel_rfl) (by simp) ?_
      refine AllReadyH.cons (o := _) rfl (fun K hK => ?_) AllReadyH.nil
      go_simp
      refine hK.out _ _ ?_ (fun hHeld => ?_)
      · exact Vb.out.to (bel_alloc (Below.refl _ _) _)
      clear hK K
      try simp only [Act.put]
      try simp only [List.setIfInBounds_toArray]
      try simp only [List.set_cons_succ]
      try simp only [List.set_cons_zero]
      obtain ⟨gL2, hg⟩ : ∃ g, W1.heap.size = g := ⟨_, rfl⟩
      obtain ⟨W9, hV⟩ : ∃ V, W1.alloc (.cells #[.int .i64 0, .bool false, .slice (some ⟨g55, 0, none⟩) 2 2, .int .i64 1, .bool false, .slice (some ⟨g6, 0, none⟩) 2 2] 36) = V := ⟨_, rfl⟩
      have bV : Below W1.heap.size W1 W9 := by rw [← hV]; exact bel_alloc (Below.refl _ _) _
      have RL2 := Lib.hid (show RowAt W9 gL2 36 [.int .i64 0, .bool false, .slice (some ⟨g55, 0, none⟩) 2 2, .int .i64 1, .bool false, .slice (some ⟨g6, 0, none⟩) 2 2] by rw [← hV, ← hg]; exact RowAt.new _ _ _)
      rw [hV, hg]
      have H9 := Lib.hid (Hb.out.to bV)
      have V9 := Lib.hid (Vb.out.to bV)
      have PA2 := Lib.hid (PA3.out.to bV)
      have R552 := Lib.hid (R55.out.to bV)
      have B9 := Lib.hid (Bb.out.trans (bV.mono Bb.out.size))
      clear hV bV hg Hb Vb PA3 R55 Bb
      have PB2 := Lib.hid (HPQ2.out W9 gL2 g55 V9.out R552.out RL2.out)
      refine wpAnyH_ready (rs := [13]) (by kernel_rfl) (by simp) ?_
      refine AllReadyH.cons (o := _) rfl (fun K hK => ?_) AllReadyH.nil
      go_simp
      (go_at_call 12; (with_reducible refine (psame_yes PA2.out PB2.out pn2 rfl PP2 (Lib.hid rfl)).mono ?_); rintro e wx ⟨rfl, bx⟩; have vx := V9.out.to bx)
      go_wp2_with fail
      refine hK.out _ _ ?_ (fun hHeld => ?_)
      · exact vx
      clear hK K
      try simp only [Act.put, List.setIfInBounds_toArray, List.set_cons_zero, List.set_cons_succ]
      have HX := Lib.hid (H9.out.to bx)
      have BX := Lib.hid (B9.out.trans (bx.mono B9.out.size))
      clear bx vx PA2 PB2 PP2 H9 B9 V9
      refine takeD (i := 14) (oi := _) (v := ?vv5) (d := some 58) rfl (by kernel_rfl) (by kernel_rfl) (by kernel_rfl) (by kernel_rfl) (fun _ _ _ h => h) (Or.inl ⟨by kernel_rfl, ?_⟩) (by assumption) ?_
      rotate_left 1
      · intro W_ hSw; (try dsimp only at hSw); go_simp; (first | done | with_reducible rfl)
      try simp only [Act.put, List.setIfInBounds_toArray, List.set_cons_zero, List.set_cons_succ]
      refine takeD (i := 15) (oi := _) (v := ?vv6) (d := some 59) rfl (by kernel_rfl) (by kernel_rfl) (by kernel_rfl) (by kernel_rfl) (fun _ _ _ h => h) (Or.inl ⟨by kernel_rfl, ?_⟩) (by assumption) ?_
      rotate_left 1
      · intro W_ hSw; (try dsimp only at hSw); go_simp; (first | done | with_reducible rfl)
      try simp only [Act.put, List.setIfInBounds_toArray, List.set_cons_zero, List.set_cons_succ]
      refine takeD (i := 16) (oi := _) (v := ?vv7) (d := some 60) rfl (by kernel_rfl) (by kernel_rfl) (by kernel_rfl) (by kernel_rfl) (fun _ _ _ h => h) (Or.inl ⟨by kernel_rfl, ?_⟩) (by assumption) ?_
      rotate_left 1
      · intro W_ hSw; (try dsimp only at hSw); go_simp; (first | done | with_reducible rfl)
      try simp only [Act.put, List.setIfInBounds_toArray, List.set_cons_zero, List.set_cons_succ]
      refine wpAnyH_ready (rs := [17]) (by kernel_rfl) (by simp) ?_
      refine AllReadyH.cons (o := _) rfl (fun K hK => ?_) AllReadyH.nil
      go_simp
      (go_at_call 17; (with_reducible refine (aw_wait0 HX.out).mono ?_); rintro e wx ⟨rfl, rfl⟩)
      go_wp2_with fail
      refine hK.out _ _ ?_ (fun hHeld => ?_)
      · exact hHeld
      clear hK K
      try simp only [Act.put, List.setIfInBounds_toArray, List.set_cons_zero, List.set_cons_succ]
      refine takeD (i := 18) (oi := _) (v := ?vv8) (d := some 62) rfl (by kernel_rfl) (by kernel_rfl) (by kernel_rfl) (by kernel_rfl) (fun _ _ _ h => h) (Or.inl ⟨by kernel_rfl, ?_⟩) (by assumption) ?_
      rotate_left 1
      · intro W_ hSw; (try dsimp only at hSw); go_simp; (first | done | with_reducible rfl)
      try simp only [Act.put, List.setIfInBounds_toArray, List.set_cons_zero, List.set_cons_succ]
      refine takeD (i := 19) (oi := _) (v := ?vv9) (d := some 63) rfl (by kernel_rfl) (by kernel_rfl) (by kernel_rfl) (by kernel_rfl) (fun _ _ _ h => h) (Or.inl ⟨by kernel_rfl, ?_⟩) (by assumption) ?_
      rotate_left 1
      · intro W_ hSw; (try dsimp only at hSw); go_simp; (first | done | with_reducible rfl)
      try simp only [Act.put, List.setIfInBounds_toArray, List.set_cons_zero, List.set_cons_succ]
      refine takeD (i := 20) (oi := _) (v := ?vv10) (d := some 64) rfl (by kernel_rfl) (by kernel_rfl) (by kernel_rfl) (by kernel_rfl) (fun _ _ _ h => h) (Or.inl ⟨by kernel_rfl, ?_⟩) (by assumption) ?_
      rotate_left 1
      · intro W_ hSw; (try dsimp only at hSw); go_simp; (first | done | with_reducible rfl)
      try simp only [Act.put, List.setIfInBounds_toArray, List.set_cons_zero, List.set_cons_succ]
      refine takeD (i := 21) (oi := _) (v := ?vv11) (d := some 65) rfl (by kernel_rfl) (by kernel_rfl) (by kernel_rfl) (by kernel_rfl) (fun _ _ _ h => h) (Or.inl ⟨by kernel_rfl, ?_⟩) (by assumption) ?_
      rotate_left 1
      · intro W_ hSw; (try dsimp only at hSw); go_simp; (first | done | with_reducible rfl)
      try simp only [Act.put, List.setIfInBounds_toArray, List.set_cons_zero, List.set_cons_succ]
      refine wpAnyH_ready (rs := [22]) (by kernel_rfl) (by simp) ?_
      refine AllReadyH.cons (o := _) rfl (fun K hK => ?_) AllReadyH.nil
      go_simp
      (go_at_call 18; (with_reducible refine (aw_time2 HX.out).mono ?_); rintro e wx ⟨rfl, rfl⟩)
      go_wp2_with fail
      refine hK.out _ _ ?_ (fun hHeld => ?_)
      · exact hHeld
      clear hK K
      try simp only [Act.put, List.setIfInBounds_toArray, List.set_cons_zero, List.set_cons_succ]
      refine takeD (i := 23) (oi := _) (v := ?vv12) (d := some 67) rfl (by kernel_rfl) (by kernel_rfl) (by kernel_rfl) (by kernel_rfl) (fun _ _ _ h => h) (Or.inl ⟨by kernel_rfl, ?_⟩) (by assumption) ?_
      rotate_left 1
      · intro W_ hSw; (try dsimp only at hSw); go_simp; (first | done | with_reducible rfl)
      try simp only [Act.put, List.setIfInBounds_toArray, List.set_cons_zero, List.set_cons_succ]
      refine takeD (i := 24) (oi := _) (v := ?vv13) (d := some 68) rfl (by kernel_rfl) (by kernel_rfl) (by kernel_rfl) (by kernel_rfl) (fun _ _ _ h => h) (Or.inl ⟨by kernel_rfl, ?_⟩) (by assumption) ?_
      rotate_left 1
      · intro W_ hSw; (try dsimp only at hSw); go_simp; (first | done | with_reducible rfl)
      try simp only [Act.put, List.setIfInBounds_toArray, List.set_cons_zero, List.set_cons_succ]
      refine takeD (i := 25) (oi := _) (v := ?vv14) (d := some 0) rfl (by kernel_rfl) (by kernel_rfl) (by kernel_rfl) (by kernel_rfl) (fun _ _ _ h => h) (Or.inl ⟨by kernel_rfl, ?_⟩) (by assumption) ?_
      rotate_left 1
      · intro W_ hSw; (try dsimp only at hSw); go_simp; (first | done | with_reducible rfl)
      try simp only [Act.put, List.setIfInBounds_toArray, List.set_cons_zero, List.set_cons_succ]
      refine wpAnyH_done (by kernel_rfl) ?_ _
      go_wp2
      go_ret
      exact ⟨rfl, BX.out⟩
    · go_simp
      refine hK.out _ _ ?_ (fun hHeld => ?_)
      · exact V8.out.to (bel_alloc (Below.refl _ _) _)
      clear hK K
      try simp only [Act.put]
      try simp only [List.setIfInBounds_toArray]
      try simp only [List.set_cons_succ]
      try simp only [List.set_cons_zero]
      have HN55 : Hid (wc.heap.size ∉ bfoot gs gm rg E6) := Lib.hid (fun hm => by have := (H8.out.foot_ge _ hm).2; omega)
      obtain ⟨g55, hg⟩ : ∃ g, wc.heap.size = g := ⟨_, rfl⟩
      obtain ⟨W1, hV⟩ : ∃ V, wc.alloc (.cells #[.int .u8 5, .int .u8 5] 5) = V := ⟨_, rfl⟩
      have bV : Below wc.heap.size wc W1 := by rw [← hV]; exact bel_alloc (Below.refl _ _) _
      have R55 := Lib.hid (show RowAt W1 g55 5 [.int .u8 5, .int .u8 5] by rw [← hV, ← hg]; exact RowAt.new _ _ _)
      rw [hg] at HN55
      rw [hV, hg]
      have Ha := Lib.hid (H8.out.to bV)
      have Va := Lib.hid (V8.out.to bV)
      have Ba := Lib.hid (B8.out.trans (bV.mono B8.out.size))
      have Ga : Hid (gN ≤ W1.heap.size) := Lib.hid (Nat.le_trans G8.out bV.size)
      clear hV bV hg H8 V8 B8 G8
      refine takeD (i := 10) (oi := _) (v := ?vv15) (d := some 54) rfl (by kernel_rfl) (by kernel_rfl) (by kernel_rfl) (by kernel_rfl) (fun _ _ _ h => h) (Or.inl ⟨by kernel_rfl, ?_⟩) (by assumption) ?_
      rotate_left 1
      · intro W_ hSw; (try dsimp only at hSw); go_simp; (first | done | with_reducible rfl)
      try simp only [Act.put, List.setIfInBounds_toArray, List.set_cons_zero, List.set_cons_succ]
      refine wpAnyH_ready (rs := [8, 12]) (by kernel_rfl) (by simp) ?_
      refine AllReadyH.cons (o := _) rfl (fun K hK => ?_) (AllReadyH.cons (o := _) rfl (fun K hK => ?_) AllReadyH.nil)
      · go_simp
        (go_at_call 13; (with_reducible refine (aw_tick2 Ha.out).mono ?_); rintro e wt ⟨E7, A2, c2, pl2, rfl, h, f, t, pc, pn2, pp⟩; have va := Va.out.fr f (fun x hx => by have h1 := HLE.out; have h2 := FT6.out x hx; omega))
        go_wp2_with fail
        refine hK.out _ _ ?_ (fun hHeld => ?_)
        · exact va
        clear hK K
        try simp only [Act.put, List.setIfInBounds_toArray, List.set_cons_zero, List.set_cons_succ]
        have Hb := Lib.hid h
        have Vb := Lib.hid va
        have PA2 := Lib.hid pc
        have PP2 := pp
        have Bb := Lib.hid (Ba.out.trans (f.below (B := w.heap.size) (fun x hx => by have := (Ha.out.foot_ge x hx).1; have := BZ.out; omega) Ba.out.size))
        have R552 := Lib.hid (f.row R55.out HN55.out)
        clear h f t pc pp va Ha Va Ba Ga FT6 R55
        refine wpAnyH_ready (rs := [12]) (by kernel_rfl) (by simp) ?_
        refine AllReadyH.cons (o := _) rfl (fun K hK => ?_) AllReadyH.nil
        go_simp
        refine hK.out _ _ ?_ (fun hHeld => ?_)
        · exact Vb.out.to (bel_alloc (Below.refl _ _) _)
        clear hK K
        try simp only [Act.put]
        try simp only [List.setIfInBounds_toArray]
        try simp only [List.set_cons_succ]
        try simp only [List.set_cons_zero]
        obtain ⟨gL2, hg⟩ : ∃ g, wt.heap.size = g := ⟨_, rfl⟩
        obtain ⟨W9, hV⟩ : ∃ V, wt.alloc (.cells #[.int .i64 0, .bool false, .slice (some ⟨g55, 0, none⟩) 2 2, .int .i64 1, .bool false, .slice (some ⟨g6, 0, none⟩) 2 2] 36) = V := ⟨_, rfl⟩
        have bV : Below wt.heap.size wt W9 := by rw [← hV]; exact bel_alloc (Below.refl _ _) _
        have RL2 := Lib.hid (show RowAt W9 gL2 36 [.int .i64 0, .bool false, .slice (some ⟨g55, 0, none⟩) 2 2, .int .i64 1, .bool false, .slice (some ⟨g6, 0, none⟩) 2 2] by rw [← hV, ← hg]; exact RowAt.new _ _ _)
        rw [hV, hg]
        have H9 := Lib.hid (Hb.out.to bV)
        have V9 := Lib.hid (Vb.out.to bV)
        have PA3 := Lib.hid (PA2.out.to bV)
        have R553 := Lib.hid (R552.out.to bV)
        have B9 := Lib.hid (Bb.out.trans (bV.mono Bb.out.size))
        clear hV bV hg Hb Vb PA2 R552 Bb
        have PA2 := PA3
        have PB2 := Lib.hid (HPQ2.out W9 gL2 g55 V9.out R553.out RL2.out)
        refine wpAnyH_ready (rs := [13]) (by kernel_rfl) (by simp) ?_
        refine AllReadyH.cons (o := _) rfl (fun K hK => ?_) AllReadyH.nil
        go_simp
        (go_at_call 12; (with_reducible refine (psame_yes PA2.out PB2.out pn2 rfl PP2 (Lib.hid rfl)).mono ?_); rintro e wx ⟨rfl, bx⟩; have vx := V9.out.to bx)
        go_wp2_with fail
        refine hK.out _ _ ?_ (fun hHeld => ?_)
        · exact vx
        clear hK K
        try simp only [Act.put, List.setIfInBounds_toArray, List.set_cons_zero, List.set_cons_succ]
        have HX := Lib.hid (H9.out.to bx)
        have BX := Lib.hid (B9.out.trans (bx.mono B9.out.size))
        clear bx vx PA2 PB2 PP2 H9 B9 V9
        refine takeD (i := 14) (oi := _) (v := ?vv16) (d := some 58) rfl (by kernel_rfl) (by kernel_rfl) (by kernel_rfl) (by kernel_rfl) (fun _ _ _ h => h) (Or.inl ⟨by kernel_rfl, ?_⟩) (by assumption) ?_
        rotate_left 1
        · intro W_ hSw; (try dsimp only at hSw); go_simp; (first | done | with_reducible rfl)
        try simp only [Act.put, List.setIfInBounds_toArray, List.set_cons_zero, List.set_cons_succ]
        refine takeD (i := 15) (oi := _) (v := ?vv17) (d := some 59) rfl (by kernel_rfl) (by kernel_rfl) (by kernel_rfl) (by kernel_rfl) (fun _ _ _ h => h) (Or.inl ⟨by kernel_rfl, ?_⟩) (by assumption) ?_
        rotate_left 1
        · intro W_ hSw; (try dsimp only at hSw); go_simp; (first | done | with_reducible rfl)
        try simp only [Act.put, List.setIfInBounds_toArray, List.set_cons_zero, List.set_cons_succ]
        refine takeD (i := 16) (oi := _) (v := ?vv18) (d := some 60) rfl (by kernel_rfl) (by kernel_rfl) (by kernel_rfl) (by kernel_rfl) (fun _ _ _ h => h) (Or.inl ⟨by kernel_rfl, ?_⟩) (by assumption) ?_
        rotate_left 1
        · intro W_ hSw; (try dsimp only at hSw); go_simp; (first | done | with_reducible rfl)
        try simp only [Act.put, List.setIfInBounds_toArray, List.set_cons_zero, List.set_cons_succ]
        refine wpAnyH_ready (rs := [17]) (by kernel_rfl) (by simp) ?_
        refine AllReadyH.cons (o := _) rfl (fun K hK => ?_) AllReadyH.nil
        go_simp
        (go_at_call 17; (with_reducible refine (aw_wait0 HX.out).mono ?_); rintro e wx ⟨rfl, rfl⟩)
        go_wp2_with fail
        refine hK.out _ _ ?_ (fun hHeld => ?_)
        · exact hHeld
        clear hK K
        try simp only [Act.put, List.setIfInBounds_toArray, List.set_cons_zero, List.set_cons_succ]
        refine takeD (i := 18) (oi := _) (v := ?vv19) (d := some 62) rfl (by kernel_rfl) (by kernel_rfl) (by kernel_rfl) (by kernel_rfl) (fun _ _ _ h => h) (Or.inl ⟨by kernel_rfl, ?_⟩) (by assumption) ?_
        rotate_left 1
        · intro W_ hSw; (try dsimp only at hSw); go_simp; (first | done | with_reducible rfl)
        try simp only [Act.put, List.setIfInBounds_toArray, List.set_cons_zero, List.set_cons_succ]
        refine takeD (i := 19) (oi := _) (v := ?vv20) (d := some 63) rfl (by kernel_rfl) (by kernel_rfl) (by kernel_rfl) (by kernel_rfl) (fun _ _ _ h => h) (Or.inl ⟨by kernel_rfl, ?_⟩) (by assumption) ?_
        rotate_left 1
        · intro W_ hSw; (try dsimp only at hSw); go_simp; (first | done | with_reducible rfl)
        try simp only [Act.put, List.setIfInBounds_toArray, List.set_cons_zero, List.set_cons_succ]
        refine takeD (i := 20) (oi := _) (v := ?vv21) (d := some 64) rfl (by kernel_rfl) (by kernel_rfl) (by kernel_rfl) (by kernel_rfl) (fun _ _ _ h => h) (Or.inl ⟨by kernel_rfl, ?_⟩) (by assumption) ?_
        rotate_left 1
        · intro W_ hSw; (try dsimp only at hSw); go_simp; (first | done | with_reducible rfl)
        try simp only [Act.put, List.setIfInBounds_toArray, List.set_cons_zero, List.set_cons_succ]
        refine takeD (i := 21) (oi := _) (v := ?vv22) (d := some 65) rfl (by kernel_rfl) (by kernel_rfl) (by kernel_rfl) (by kernel_rfl) (fun _ _ _ h => h) (Or.inl ⟨by kernel_rfl, ?_⟩) (by assumption) ?_
        rotate_left 1
        · intro W_ hSw; (try dsimp only at hSw); go_simp; (first | done | with_reducible rfl)
        try simp only [Act.put, List.setIfInBounds_toArray, List.set_cons_zero, List.set_cons_succ]
        refine wpAnyH_ready (rs := [22]) (by kernel_rfl) (by simp) ?_
        refine AllReadyH.cons (o := _) rfl (fun K hK => ?_) AllReadyH.nil
        go_simp
        (go_at_call 18; (with_reducible refine (aw_time2 HX.out).mono ?_); rintro e wx ⟨rfl, rfl⟩)
        go_wp2_with fail
        refine hK.out _ _ ?_ (fun hHeld => ?_)
        · exact hHeld
        clear hK K
        try simp only [Act.put, List.setIfInBounds_toArray, List.set_cons_zero, List.set_cons_succ]
        refine takeD (i := 23) (oi := _) (v := ?vv23) (d := some 67) rfl (by kernel_rfl) (by kernel_rfl) (by kernel_rfl) (by kernel_rfl) (fun _ _ _ h => h) (Or.inl ⟨by kernel_rfl, ?_⟩) (by assumption) ?_
        rotate_left 1
        · intro W_ hSw; (try dsimp only at hSw); go_simp; (first | done | with_reducible rfl)
        try simp only [Act.put, List.setIfInBounds_toArray, List.set_cons_zero, List.set_cons_succ]
        refine takeD (i := 24) (oi := _) (v := ?vv24) (d := some 68) rfl (by kernel_rfl) (by kernel_rfl) (by kernel_rfl) (by kernel_rfl) (fun _ _ _ h => h) (Or.inl ⟨by kernel_rfl, ?_⟩) (by assumption) ?_
        rotate_left 1
        · intro W_ hSw; (try dsimp only at hSw); go_simp; (first | done | with_reducible rfl)
        try simp only [Act.put, List.setIfInBounds_toArray, List.set_cons_zero, List.set_cons_succ]
        refine takeD (i := 25) (oi := _) (v := ?vv25) (d := some 0) rfl (by kernel_rfl) (by kernel_rfl) (by kernel_rfl) (by kernel_rfl) (fun _ _ _ h => h) (Or.inl ⟨by kernel_rfl, ?_⟩) (by assumption) ?_
        rotate_left 1
        · intro W_ hSw; (try dsimp only at hSw); go_simp; (first | done | with_reducible rfl)
        try simp only [Act.put, List.setIfInBounds_toArray, List.set_cons_zero, List.set_cons_succ]
        refine wpAnyH_done (by kernel_rfl) ?_ _
        go_wp2
        go_ret
        exact ⟨rfl, BX.out⟩
      · go_simp
        refine hK.out _ _ ?_ (fun hHeld => ?_)
        · exact Va.out.to (bel_alloc (Below.refl _ _) _)
        clear hK K
        try simp only [Act.put]
        try simp only [List.setIfInBounds_toArray]
        try simp only [List.set_cons_succ]
        try simp only [List.set_cons_zero]
        have HNL : Hid (W1.heap.size ∉ bfoot gs gm rg E6) := Lib.hid (fun hm => by have := (Ha.out.foot_ge _ hm).2; omega)
        obtain ⟨gL2, hg⟩ : ∃ g, W1.heap.size = g := ⟨_, rfl⟩
        obtain ⟨W3, hV⟩ : ∃ V, W1.alloc (.cells #[.int .i64 0, .bool false, .slice (some ⟨g55, 0, none⟩) 2 2, .int .i64 1, .bool false, .slice (some ⟨g6, 0, none⟩) 2 2] 36) = V := ⟨_, rfl⟩
        have bV : Below W1.heap.size W1 W3 := by rw [← hV]; exact bel_alloc (Below.refl _ _) _
        have RL2 := Lib.hid (show RowAt W3 gL2 36 [.int .i64 0, .bool false, .slice (some ⟨g55, 0, none⟩) 2 2, .int .i64 1, .bool false, .slice (some ⟨g6, 0, none⟩) 2 2] by rw [← hV, ← hg]; exact RowAt.new _ _ _)
        rw [hg] at HNL
        rw [hV, hg]
        have Hb := Lib.hid (Ha.out.to bV)
        have Vb := Lib.hid (Va.out.to bV)
        have R552 := Lib.hid (R55.out.to bV)
        have Bb := Lib.hid (Ba.out.trans (bV.mono Ba.out.size))
        have Gb : Hid (gN ≤ W3.heap.size) := Lib.hid (Nat.le_trans Ga.out bV.size)
        clear hV bV hg Ha Va R55 Ba Ga
        refine wpAnyH_ready (rs := [8]) (by kernel_rfl) (by simp) ?_
        refine AllReadyH.cons (o := _) rfl (fun K hK => ?_) AllReadyH.nil
        go_simp
        (go_at_call 13; (with_reducible refine (aw_tick2 Hb.out).mono ?_); rintro e W9 ⟨E7, A2, c2, pl2, rfl, h, f, t, pc, pn2, pp⟩; have va := Vb.out.fr f (fun x hx => by have h1 := HLE.out; have h2 := FT6.out x hx; omega))
        go_wp2_with fail
        refine hK.out _ _ ?_ (fun hHeld => ?_)
        · exact va
        clear hK K
        try simp only [Act.put, List.setIfInBounds_toArray, List.set_cons_zero, List.set_cons_succ]
        have H9 := Lib.hid h
        have V9 := Lib.hid va
        have PA2 := Lib.hid pc
        have PP2 := pp
        have B9 := Lib.hid (Bb.out.trans (f.below (B := w.heap.size) (fun x hx => by have := (Hb.out.foot_ge x hx).1; have := BZ.out; omega) Bb.out.size))
        have PB2 := Lib.hid (HPQ2.out W9 gL2 g55 V9.out (f.row R552.out HN55.out) (f.row RL2.out HNL.out))
        clear h f t pc pp va Hb Vb Bb Gb FT6 R552 RL2
        refine wpAnyH_ready (rs := [13]) (by kernel_rfl) (by simp) ?_
        refine AllReadyH.cons (o := _) rfl (fun K hK => ?_) AllReadyH.nil
        go_simp
        (go_at_call 12; (with_reducible refine (psame_yes PA2.out PB2.out pn2 rfl PP2 (Lib.hid rfl)).mono ?_); rintro e wx ⟨rfl, bx⟩; have vx := V9.out.to bx)
        go_wp2_with fail
        refine hK.out _ _ ?_ (fun hHeld => ?_)
        · exact vx
        clear hK K
        try simp only [Act.put, List.setIfInBounds_toArray, List.set_cons_zero, List.set_cons_succ]
        have HX := Lib.hid (H9.out.to bx)
        have BX := Lib.hid (B9.out.trans (bx.mono B9.out.size))
        clear bx vx PA2 PB2 PP2 H9 B9 V9
        refine takeD (i := 14) (oi := _) (v := ?vv26) (d := some 58) rfl (by kernel_rfl) (by kernel_rfl) (by kernel_rfl) (by kernel_rfl) (fun _ _ _ h => h) (Or.inl ⟨by kernel_rfl, ?_⟩) (by assumption) ?_
        rotate_left 1
        · intro W_ hSw; (try dsimp only at hSw); go_simp; (first | done | with_reducible rfl)
        try simp only [Act.put, List.setIfInBounds_toArray, List.set_cons_zero, List.set_cons_succ]
        refine takeD (i := 15) (oi := _) (v := ?vv27) (d := some 59) rfl (by kernel_rfl) (by kernel_rfl) (by kernel_rfl) (by kernel_rfl) (fun _ _ _ h => h) (Or.inl ⟨by kernel_rfl, ?_⟩) (by assumption) ?_
        rotate_left 1
        · intro W_ hSw; (try dsimp only at hSw); go_simp; (first | done | with_reducible rfl)
        try simp only [Act.put, List.setIfInBounds_toArray, List.set_cons_zero, List.set_cons_succ]
        refine takeD (i := 16) (oi := _) (v := ?vv28) (d := some 60) rfl (by kernel_rfl) (by kernel_rfl) (by kernel_rfl) (by kernel_rfl) (fun _ _ _ h => h) (Or.inl ⟨by kernel_rfl, ?_⟩) (by assumption) ?_
        rotate_left 1
        · intro W_ hSw; (try dsimp only at hSw); go_simp; (first | done | with_reducible rfl)
        try simp only [Act.put, List.setIfInBounds_toArray, List.set_cons_zero, List.set_cons_succ]
        refine wpAnyH_ready (rs := [17]) (by kernel_rfl) (by simp) ?_
        refine AllReadyH.cons (o := _) rfl (fun K hK => ?_) AllReadyH.nil
        go_simp
        (go_at_call 17; (with_reducible refine (aw_wait0 HX.out).mono ?_); rintro e wx ⟨rfl, rfl⟩)
        go_wp2_with fail
        refine hK.out _ _ ?_ (fun hHeld => ?_)
        · exact hHeld
        clear hK K
        try simp only [Act.put, List.setIfInBounds_toArray, List.set_cons_zero, List.set_cons_succ]
        refine takeD (i := 18) (oi := _) (v := ?vv29) (d := some 62) rfl (by kernel_rfl) (by kernel_rfl) (by kernel_rfl) (by kernel_rfl) (fun _ _ _ h => h) (Or.inl ⟨by kernel_rfl, ?_⟩) (by assumption) ?_
        rotate_left 1
        · intro W_ hSw; (try dsimp only at hSw); go_simp; (first | done | with_reducible rfl)
        try simp only [Act.put, List.setIfInBounds_toArray, List.set_cons_zero, List.set_cons_succ]
        refine takeD (i := 19) (oi := _) (v := ?vv30) (d := some 63) rfl (by kernel_rfl) (by kernel_rfl) (by kernel_rfl) (by kernel_rfl) (fun _ _ _ h => h) (Or.inl ⟨by kernel_rfl, ?_⟩) (by assumption) ?_
        rotate_left 1
        · intro W_ hSw; (try dsimp only at hSw); go_simp; (first | done | with_reducible rfl)
        try simp only [Act.put, List.setIfInBounds_toArray, List.set_cons_zero, List.set_cons_succ]
        refine takeD (i := 20) (oi := _) (v := ?vv31) (d := some 64) rfl (by kernel_rfl) (by kernel_rfl) (by kernel_rfl) (by kernel_rfl) (fun _ _ _ h => h) (Or.inl ⟨by kernel_rfl, ?_⟩) (by assumption) ?_
        rotate_left 1
        · intro W_ hSw; (try dsimp only at hSw); go_simp; (first | done | with_reducible rfl)
        try simp only [Act.put, List.setIfInBounds_toArray, List.set_cons_zero, List.set_cons_succ]
        refine takeD (i := 21) (oi := _) (v := ?vv32) (d := some 65) rfl (by kernel_rfl) (by kernel_rfl) (by kernel_rfl) (by kernel_rfl) (fun _ _ _ h => h) (Or.inl ⟨by kernel_rfl, ?_⟩) (by assumption) ?_
        rotate_left 1
        · intro W_ hSw; (try dsimp only at hSw); go_simp; (first | done | with_reducible rfl)
        try simp only [Act.put, List.setIfInBounds_toArray, List.set_cons_zero, List.set_cons_succ]
        refine wpAnyH_ready (rs := [22]) (by kernel_rfl) (by simp) ?_
        refine AllReadyH.cons (o := _) rfl (fun K hK => ?_) AllReadyH.nil
        go_simp
        (go_at_call 18; (with_reducible refine (aw_time2 HX.out).mono ?_); rintro e wx ⟨rfl, rfl⟩)
        go_wp2_with fail
        refine hK.out _ _ ?_ (fun hHeld => ?_)
        · exact hHeld
        clear hK K
        try simp only [Act.put, List.setIfInBounds_toArray, List.set_cons_zero, List.set_cons_succ]
        refine takeD (i := 23) (oi := _) (v := ?vv33) (d := some 67) rfl (by kernel_rfl) (by kernel_rfl) (by kernel_rfl) (by kernel_rfl) (fun _ _ _ h => h) (Or.inl ⟨by kernel_rfl, ?_⟩) (by assumption) ?_
        rotate_left 1
        · intro W_ hSw; (try dsimp only at hSw); go_simp; (first | done | with_reducible rfl)
        try simp only [Act.put, List.setIfInBounds_toArray, List.set_cons_zero, List.set_cons_succ]
        refine takeD (i := 24) (oi := _) (v := ?vv34) (d := some 68) rfl (by kernel_rfl) (by kernel_rfl) (by kernel_rfl) (by kernel_rfl) (fun _ _ _ h => h) (Or.inl ⟨by kernel_rfl, ?_⟩) (by assumption) ?_
        rotate_left 1
        · intro W_ hSw; (try dsimp only at hSw); go_simp; (first | done | with_reducible rfl)
        try simp only [Act.put, List.setIfInBounds_toArray, List.set_cons_zero, List.set_cons_succ]
        refine takeD (i := 25) (oi := _) (v := ?vv35) (d := some 0) rfl (by kernel_rfl) (by kernel_rfl) (by kernel_rfl) (by kernel_rfl) (fun _ _ _ h => h) (Or.inl ⟨by kernel_rfl, ?_⟩) (by assumption) ?_
        rotate_left 1
        · intro W_ hSw; (try dsimp only at hSw); go_simp; (first | done | with_reducible rfl)
        try simp only [Act.put, List.setIfInBounds_toArray, List.set_cons_zero, List.set_cons_succ]
        refine wpAnyH_done (by kernel_rfl) ?_ _
        go_wp2
        go_ret
        exact ⟨rfl, BX.out⟩
  · go_simp
    refine hK.out _ _ ?_ (fun hHeld => ?_)
    · exact VD.out.to (bel_alloc (Below.refl _ _) _)
    clear hK K
    try simp only [Act.put]
    try simp only [List.setIfInBounds_toArray]
    try simp only [List.set_cons_succ]
    try simp only [List.set_cons_zero]
    obtain ⟨gL, hgL⟩ : ∃ gL, wd.heap.size = gL := ⟨_, rfl⟩
    obtain ⟨V, hV⟩ : ∃ V, wd.alloc (.cells #[.int .i64 0, .bool false, .slice (some ⟨g5, 0, none⟩) 2 2, .int .i64 1, .bool false, .slice (some ⟨g6, 0, none⟩) 2 2] 36) = V := ⟨_, rfl⟩
    have bV : Below wd.heap.size wd V := by rw [← hV]; exact bel_alloc (Below.refl _ _) _
    have rL : RowAt V gL 36 [.int .i64 0, .bool false, .slice (some ⟨g5, 0, none⟩) 2 2, .int .i64 1, .bool false, .slice (some ⟨g6, 0, none⟩) 2 2] := by rw [← hV, ← hgL]; exact RowAt.new _ _ _
    rw [hV, hgL]
    have HFL : Hid (gL ∉ bfoot gs gm rg E5) := Lib.hid (fun hm => by have := (HD.out.foot_ge _ hm).2; omega)
    have HD2 := Lib.hid (HD.out.to bV)
    have VD2 := Lib.hid (VD.out.to bV)
    have BD2 := Lib.hid (BD.out.trans (bV.mono BD.out.size))
    have GD2 : Hid (gN ≤ V.heap.size) := Lib.hid (Nat.le_trans GD.out bV.size)
    have RL := Lib.hid rL
    clear HD VD BD GD hV hgL rL bV
    refine wpAnyH_ready (rs := [1]) (by kernel_rfl) (by simp) ?_
    refine AllReadyH.cons (o := _) rfl (fun K hK => ?_) AllReadyH.nil
    go_simp
    (go_at_call 13; (with_reducible refine (aw_tick1 HD2.out).mono ?_); rintro e wa ⟨E6, A, c, pl, rfl, h, f, t, pc, pn, pp⟩; have va := VD2.out.fr f (fun x hx => by have h1 := HLE.out; have h2 := FT5.out x hx; omega))
    go_wp2_with fail
    refine hK.out _ _ ?_ (fun hHeld => ?_)
    · exact va
    clear hK K
    try simp only [Act.put, List.setIfInBounds_toArray, List.set_cons_zero, List.set_cons_succ]
    have H7 := Lib.hid h
    have V7 := Lib.hid va
    have PA := Lib.hid pc
    have PB := Lib.hid (HPQ.out wa gL va (f.row RL.out HFL.out))
    have PP := pp
    have FT6 : Hid (∀ x, x ∈ bfoot gs gm rg E6 → x < gf ∨ gN ≤ x) := Lib.hid (fun x hx => FT5.out x (t x hx))
    have B7 := Lib.hid (BD2.out.trans (f.below (B := w.heap.size) (fun x hx => by have := (HD2.out.foot_ge x hx).1; have := BZ.out; omega) BD2.out.size))
    have G7 : Hid (gN ≤ wa.heap.size) := Lib.hid (Nat.le_trans GD2.out f.size)
    clear h f t pc pp va HD2 VD2 BD2 GD2 FT5 RL HFL
    refine wpAnyH_ready (rs := [5]) (by kernel_rfl) (by simp) ?_
    refine AllReadyH.cons (o := _) rfl (fun K hK => ?_) AllReadyH.nil
    go_simp
    (go_at_call 12; (with_reducible refine (psame_yes PA.out PB.out pn rfl PP (Lib.hid rfl)).mono ?_); rintro e wc ⟨rfl, bc⟩; have vc := V7.out.to bc)
    go_wp2_with fail
    refine hK.out _ _ ?_ (fun hHeld => ?_)
    · exact vc
    clear hK K
    try simp only [Act.put, List.setIfInBounds_toArray, List.set_cons_zero, List.set_cons_succ]
    have H8 := Lib.hid (H7.out.to bc)
    have V8 := Lib.hid vc
    have B8 := Lib.hid (B7.out.trans (bc.mono B7.out.size))
    have G8 : Hid (gN ≤ wc.heap.size) := Lib.hid (Nat.le_trans G7.out bc.size)
    clear bc vc PA PB pn PP H7 V7 B7 G7
    refine takeD (i := 6) (oi := _) (v := ?vv36) (d := some 50) rfl (by kernel_rfl) (by kernel_rfl) (by kernel_rfl) (by kernel_rfl) (fun _ _ _ h => h) (Or.inl ⟨by kernel_rfl, ?_⟩) (by assumption) ?_
    rotate_left 1
    · intro W_ hSw; (try dsimp only at hSw); go_simp; (first | done | with_reducible rfl)
    try simp only [Act.put, List.setIfInBounds_toArray, List.set_cons_zero, List.set_cons_succ]
    refine takeD (i := 7) (oi := _) (v := ?vv37) (d := some 51) rfl (by kernel_rfl) (by kernel_rfl) (by kernel_rfl) (by kernel_rfl) (fun _ _ _ h => h) (Or.inl ⟨by kernel_rfl, ?_⟩) (by assumption) ?_
    rotate_left 1
    · intro W_ hSw; (try dsimp only at hSw); go_simp; (first | done | with_reducible rfl)
    try simp only [Act.put, List.setIfInBounds_toArray, List.set_cons_zero, List.set_cons_succ]
    refine takeD (i := 11) (oi := _) (v := _) (d := some 55) rfl (by kernel_rfl) (by kernel_rfl) (by kernel_rfl) (by kernel_rfl) (fun _ _ _ h => h) (yieldsIf_load_mid (by kernel_rfl) 36 (.tmp 5) (by kernel_rfl) gb 0 (by kernel_rfl) [.int .i64 1, .bool false, .slice (some ⟨g6, 0, none⟩) 2 2] _ (fun W h => h.b.all) Try.underlying36 rfl size_parc) (by assumption) ?_
    try simp only [Act.put, List.setIfInBounds_toArray, List.set_cons_zero, List.set_cons_succ]
    refine wpAnyH_ready (rs := [8, 9]) (by kernel_rfl) (by simp) ?_
    refine AllReadyH.cons (o := _) rfl (fun K hK => ?_) (AllReadyH.cons (o := _) rfl (fun K hK => ?_) AllReadyH.nil)
    · go_simp
      (go_at_call 13; (with_reducible refine (aw_tick2 H8.out).mono ?_); rintro e wt ⟨E7, A2, c2, pl2, rfl, h, f, t, pc, pn2, pp⟩; have va := V8.out.fr f (fun x hx => by have h1 := HLE.out; have h2 := FT6.out x hx; omega))
      go_wp2_with fail
      refine hK.out _ _ ?_ (fun hHeld => ?_)
      · exact va
      clear hK K
      try simp only [Act.put, List.setIfInBounds_toArray, List.set_cons_zero, List.set_cons_succ]
      have Ha := Lib.hid h
      have Va := Lib.hid va
      have PA2 := Lib.hid pc
      have PP2 := pp
      have Ba := Lib.hid (B8.out.trans (f.below (B := w.heap.size) (fun x hx => by have := (H8.out.foot_ge x hx).1; have := BZ.out; omega) B8.out.size))
      clear h f t pc pp va H8 V8 B8 G8 FT6
      refine wpAnyH_ready (rs := [9]) (by kernel_rfl) (by simp) ?_
      refine AllReadyH.cons (o := _) rfl (fun K hK => ?_) AllReadyH.nil
      go_simp
      refine hK.out _ _ ?_ (fun hHeld => ?_)
      · exact Va.out.to (bel_alloc (Below.refl _ _) _)
      clear hK K
      try simp only [Act.put]
      try simp only [List.setIfInBounds_toArray]
      try simp only [List.set_cons_succ]
      try simp only [List.set_cons_zero]
      obtain ⟨g55, hg⟩ : ∃ g, wt.heap.size = g := ⟨_, rfl⟩
      obtain ⟨W1, hV⟩ : ∃ V, wt.alloc (.cells #[.int .u8 5, .int .u8 5] 5) = V := ⟨_, rfl⟩
      have bV : Below wt.heap.size wt W1 := by rw [← hV]; exact bel_alloc (Below.refl _ _) _
      have R55 := Lib.hid (show RowAt W1 g55 5 [.int .u8 5, .int .u8 5] by rw [← hV, ← hg]; exact RowAt.new _ _ _)
      rw [hV, hg]
      have Hb := Lib.hid (Ha.out.to bV)
      have Vb := Lib.hid (Va.out.to bV)
      have PA3 := Lib.hid (PA2.out.to bV)
      have Bb := Lib.hid (Ba.out.trans (bV.mono Ba.out.size))
      clear hV bV hg Ha Va PA2 Ba
      refine takeD (i := 10) (oi := _) (v := ?vv38) (d := some 54) rfl (by kernel_rfl) (by kernel_rfl) (by kernel_rfl) (by kernel_rfl) (fun _ _ _ h => h) (Or.inl ⟨by kernel_rfl, ?_⟩) (by assumption) ?_
      rotate_left 1
      · intro W_ hSw; (try dsimp only at hSw); go_simp; (first | done | with_reducible rfl)
      try simp only [Act.put, List.setIfInBounds_toArray, List.set_cons_zero, List.set_cons_succ]
      refine wpAnyH_ready (rs := [12]) (by kernel_rfl) (by simp) ?_
      refine AllReadyH.cons (o := _) rfl (fun K hK => ?_) AllReadyH.nil
      go_simp
      refine hK.out _ _ ?_ (fun hHeld => ?_)
      · exact Vb.out.to (bel_alloc (Below.refl _ _) _)
      clear hK K
      try simp only [Act.put]
      try simp only [List.setIfInBounds_toArray]
      try simp only [List.set_cons_succ]
      try simp only [List.set_cons_zero]
      obtain ⟨gL2, hg⟩ : ∃ g, W1.heap.size = g := ⟨_, rfl⟩
      obtain ⟨W9, hV⟩ : ∃ V, W1.alloc (.cells #[.int .i64 0, .bool false, .slice (some ⟨g55, 0, none⟩) 2 2, .int .i64 1, .bool false, .slice (some ⟨g6, 0, none⟩) 2 2] 36) = V := ⟨_, rfl⟩
      have bV : Below W1.heap.size W1 W9 := by rw [← hV]; exact bel_alloc (Below.refl _ _) _
      have RL2 := Lib.hid (show RowAt W9 gL2 36 [.int .i64 0, .bool false, .slice (some ⟨g55, 0, none⟩) 2 2, .int .i64 1, .bool false, .slice (some ⟨g6, 0, none⟩) 2 2] by rw [← hV, ← hg]; exact RowAt.new _ _ _)
      rw [hV, hg]
      have H9 := Lib.hid (Hb.out.to bV)
      have V9 := Lib.hid (Vb.out.to bV)
      have PA2 := Lib.hid (PA3.out.to bV)
      have R552 := Lib.hid (R55.out.to bV)
      have B9 := Lib.hid (Bb.out.trans (bV.mono Bb.out.size))
      clear hV bV hg Hb Vb PA3 R55 Bb
      have PB2 := Lib.hid (HPQ2.out W9 gL2 g55 V9.out R552.out RL2.out)
      refine wpAnyH_ready (rs := [13]) (by kernel_rfl) (by simp) ?_
      refine AllReadyH.cons (o := _) rfl (fun K hK => ?_) AllReadyH.nil
      go_simp
      (go_at_call 12; (with_reducible refine (psame_yes PA2.out PB2.out pn2 rfl PP2 (Lib.hid rfl)).mono ?_); rintro e wx ⟨rfl, bx⟩; have vx := V9.out.to bx)
      go_wp2_with fail
      refine hK.out _ _ ?_ (fun hHeld => ?_)
      · exact vx
      clear hK K
      try simp only [Act.put, List.setIfInBounds_toArray, List.set_cons_zero, List.set_cons_succ]
      have HX := Lib.hid (H9.out.to bx)
      have BX := Lib.hid (B9.out.trans (bx.mono B9.out.size))
      clear bx vx PA2 PB2 PP2 H9 B9 V9
      refine takeD (i := 14) (oi := _) (v := ?vv39) (d := some 58) rfl (by kernel_rfl) (by kernel_rfl) (by kernel_rfl) (by kernel_rfl) (fun _ _ _ h => h) (Or.inl ⟨by kernel_rfl, ?_⟩) (by assumption) ?_
      rotate_left 1
      · intro W_ hSw; (try dsimp only at hSw); go_simp; (first | done | with_reducible rfl)
      try simp only [Act.put, List.setIfInBounds_toArray, List.set_cons_zero, List.set_cons_succ]
      refine takeD (i := 15) (oi := _) (v := ?vv40) (d := some 59) rfl (by kernel_rfl) (by kernel_rfl) (by kernel_rfl) (by kernel_rfl) (fun _ _ _ h => h) (Or.inl ⟨by kernel_rfl, ?_⟩) (by assumption) ?_
      rotate_left 1
      · intro W_ hSw; (try dsimp only at hSw); go_simp; (first | done | with_reducible rfl)
      try simp only [Act.put, List.setIfInBounds_toArray, List.set_cons_zero, List.set_cons_succ]
      refine takeD (i := 16) (oi := _) (v := ?vv41) (d := some 60) rfl (by kernel_rfl) (by kernel_rfl) (by kernel_rfl) (by kernel_rfl) (fun _ _ _ h => h) (Or.inl ⟨by kernel_rfl, ?_⟩) (by assumption) ?_
      rotate_left 1
      · intro W_ hSw; (try dsimp only at hSw); go_simp; (first | done | with_reducible rfl)
      try simp only [Act.put, List.setIfInBounds_toArray, List.set_cons_zero, List.set_cons_succ]
      refine wpAnyH_ready (rs := [17]) (by kernel_rfl) (by simp) ?_
      refine AllReadyH.cons (o := _) rfl (fun K hK => ?_) AllReadyH.nil
      go_simp
      (go_at_call 17; (with_reducible refine (aw_wait0 HX.out).mono ?_); rintro e wx ⟨rfl, rfl⟩)
      go_wp2_with fail
      refine hK.out _ _ ?_ (fun hHeld => ?_)
      · exact hHeld
      clear hK K
      try simp only [Act.put, List.setIfInBounds_toArray, List.set_cons_zero, List.set_cons_succ]
      refine takeD (i := 18) (oi := _) (v := ?vv42) (d := some 62) rfl (by kernel_rfl) (by kernel_rfl) (by kernel_rfl) (by kernel_rfl) (fun _ _ _ h => h) (Or.inl ⟨by kernel_rfl, ?_⟩) (by assumption) ?_
      rotate_left 1
      · intro W_ hSw; (try dsimp only at hSw); go_simp; (first | done | with_reducible rfl)
      try simp only [Act.put, List.setIfInBounds_toArray, List.set_cons_zero, List.set_cons_succ]
      refine takeD (i := 19) (oi := _) (v := ?vv43) (d := some 63) rfl (by kernel_rfl) (by kernel_rfl) (by kernel_rfl) (by kernel_rfl) (fun _ _ _ h => h) (Or.inl ⟨by kernel_rfl, ?_⟩) (by assumption) ?_
      rotate_left 1
      · intro W_ hSw; (try dsimp only at hSw); go_simp; (first | done | with_reducible rfl)
      try simp only [Act.put, List.setIfInBounds_toArray, List.set_cons_zero, List.set_cons_succ]
      refine takeD (i := 20) (oi := _) (v := ?vv44) (d := some 64) rfl (by kernel_rfl) (by kernel_rfl) (by kernel_rfl) (by kernel_rfl) (fun _ _ _ h => h) (Or.inl ⟨by kernel_rfl, ?_⟩) (by assumption) ?_
      rotate_left 1
      · intro W_ hSw; (try dsimp only at hSw); go_simp; (first | done | with_reducible rfl)
      try simp only [Act.put, List.setIfInBounds_toArray, List.set_cons_zero, List.set_cons_succ]
      refine takeD (i := 21) (oi := _) (v := ?vv45) (d := some 65) rfl (by kernel_rfl) (by kernel_rfl) (by kernel_rfl) (by kernel_rfl) (fun _ _ _ h => h) (Or.inl ⟨by kernel_rfl, ?_⟩) (by assumption) ?_
      rotate_left 1
      · intro W_ hSw; (try dsimp only at hSw); go_simp; (first | done | with_reducible rfl)
      try simp only [Act.put, List.setIfInBounds_toArray, List.set_cons_zero, List.set_cons_succ]
      refine wpAnyH_ready (rs := [22]) (by kernel_rfl) (by simp) ?_
      refine AllReadyH.cons (o := _) rfl (fun K hK => ?_) AllReadyH.nil
      go_simp
      (go_at_call 18; (with_reducible refine (aw_time2 HX.out).mono ?_); rintro e wx ⟨rfl, rfl⟩)
      go_wp2_with fail
      refine hK.out _ _ ?_ (fun hHeld => ?_)
      · exact hHeld
      clear hK K
      try simp only [Act.put, List.setIfInBounds_toArray, List.set_cons_zero, List.set_cons_succ]
      refine takeD (i := 23) (oi := _) (v := ?vv46) (d := some 67) rfl (by kernel_rfl) (by kernel_rfl) (by kernel_rfl) (by kernel_rfl) (fun _ _ _ h => h) (Or.inl ⟨by kernel_rfl, ?_⟩) (by assumption) ?_
      rotate_left 1
      · intro W_ hSw; (try dsimp only at hSw); go_simp; (first | done | with_reducible rfl)
      try simp only [Act.put, List.setIfInBounds_toArray, List.set_cons_zero, List.set_cons_succ]
      refine takeD (i := 24) (oi := _) (v := ?vv47) (d := some 68) rfl (by kernel_rfl) (by kernel_rfl) (by kernel_rfl) (by kernel_rfl) (fun _ _ _ h => h) (Or.inl ⟨by kernel_rfl, ?_⟩) (by assumption) ?_
      rotate_left 1
      · intro W_ hSw; (try dsimp only at hSw); go_simp; (first | done | with_reducible rfl)
      try simp only [Act.put, List.setIfInBounds_toArray, List.set_cons_zero, List.set_cons_succ]
      refine takeD (i := 25) (oi := _) (v := ?vv48) (d := some 0) rfl (by kernel_rfl) (by kernel_rfl) (by kernel_rfl) (by kernel_rfl) (fun _ _ _ h => h) (Or.inl ⟨by kernel_rfl, ?_⟩) (by assumption) ?_
      rotate_left 1
      · intro W_ hSw; (try dsimp only at hSw); go_simp; (first | done | with_reducible rfl)
      try simp only [Act.put, List.setIfInBounds_toArray, List.set_cons_zero, List.set_cons_succ]
      refine wpAnyH_done (by kernel_rfl) ?_ _
      go_wp2
      go_ret
      exact ⟨rfl, BX.out⟩
    · go_simp
      refine hK.out _ _ ?_ (fun hHeld => ?_)
      · exact V8.out.to (bel_alloc (Below.refl _ _) _)
      clear hK K
      try simp only [Act.put]
      try simp only [List.setIfInBounds_toArray]
      try simp only [List.set_cons_succ]
      try simp only [List.set_cons_zero]
      have HN55 : Hid (wc.heap.size ∉ bfoot gs gm rg E6) := Lib.hid (fun hm => by have := (H8.out.foot_ge _ hm).2; omega)
      obtain ⟨g55, hg⟩ : ∃ g, wc.heap.size = g := ⟨_, rfl⟩
      obtain ⟨W1, hV⟩ : ∃ V, wc.alloc (.cells #[.int .u8 5, .int .u8 5] 5) = V := ⟨_, rfl⟩
      have bV : Below wc.heap.size wc W1 := by rw [← hV]; exact bel_alloc (Below.refl _ _) _
      have R55 := Lib.hid (show RowAt W1 g55 5 [.int .u8 5, .int .u8 5] by rw [← hV, ← hg]; exact RowAt.new _ _ _)
      rw [hg] at HN55
      rw [hV, hg]
      have Ha := Lib.hid (H8.out.to bV)
      have Va := Lib.hid (V8.out.to bV)
      have Ba := Lib.hid (B8.out.trans (bV.mono B8.out.size))
      have Ga : Hid (gN ≤ W1.heap.size) := Lib.hid (Nat.le_trans G8.out bV.size)
      clear hV bV hg H8 V8 B8 G8
      refine takeD (i := 10) (oi := _) (v := ?vv49) (d := some 54) rfl (by kernel_rfl) (by kernel_rfl) (by kernel_rfl) (by kernel_rfl) (fun _ _ _ h => h) (Or.inl ⟨by kernel_rfl, ?_⟩) (by assumption) ?_
      rotate_left 1
      · intro W_ hSw; (try dsimp only at hSw); go_simp; (first | done | with_reducible rfl)
      try simp only [Act.put, List.setIfInBounds_toArray, List.set_cons_zero, List.set_cons_succ]
      refine wpAnyH_ready (rs := [8, 12]) (by kernel_rfl) (by simp) ?_
      refine AllReadyH.cons (o := _) rfl (fun K hK => ?_) (AllReadyH.cons (o := _) rfl (fun K hK => ?_) AllReadyH.nil)
      · go_simp
        (go_at_call 13; (with_reducible refine (aw_tick2 Ha.out).mono ?_); rintro e wt ⟨E7, A2, c2, pl2, rfl, h, f, t, pc, pn2, pp⟩; have va := Va.out.fr f (fun x hx => by have h1 := HLE.out; have h2 := FT6.out x hx; omega))
        go_wp2_with fail
        refine hK.out _ _ ?_ (fun hHeld => ?_)
        · exact va
        clear hK K
        try simp only [Act.put, List.setIfInBounds_toArray, List.set_cons_zero, List.set_cons_succ]
        have Hb := Lib.hid h
        have Vb := Lib.hid va
        have PA2 := Lib.hid pc
        have PP2 := pp
        have Bb := Lib.hid (Ba.out.trans (f.below (B := w.heap.size) (fun x hx => by have := (Ha.out.foot_ge x hx).1; have := BZ.out; omega) Ba.out.size))
        have R552 := Lib.hid (f.row R55.out HN55.out)
        clear h f t pc pp va Ha Va Ba Ga FT6 R55
        refine wpAnyH_ready (rs := [12]) (by kernel_rfl) (by simp) ?_
        refine AllReadyH.cons (o := _) rfl (fun K hK => ?_) AllReadyH.nil
        go_simp
        refine hK.out _ _ ?_ (fun hHeld => ?_)
        · exact Vb.out.to (bel_alloc (Below.refl _ _) _)
        clear hK K
        try simp only [Act.put]
        try simp only [List.setIfInBounds_toArray]
        try simp only [List.set_cons_succ]
        try simp only [List.set_cons_zero]
        obtain ⟨gL2, hg⟩ : ∃ g, wt.heap.size = g := ⟨_, rfl⟩
        obtain ⟨W9, hV⟩ : ∃ V, wt.alloc (.cells #[.int .i64 0, .bool false, .slice (some ⟨g55, 0, none⟩) 2 2, .int .i64 1, .bool false, .slice (some ⟨g6, 0, none⟩) 2 2] 36) = V := ⟨_, rfl⟩
        have bV : Below wt.heap.size wt W9 := by rw [← hV]; exact bel_alloc (Below.refl _ _) _
        have RL2 := Lib.hid (show RowAt W9 gL2 36 [.int .i64 0, .bool false, .slice (some ⟨g55, 0, none⟩) 2 2, .int .i64 1, .bool false, .slice (some ⟨g6, 0, none⟩) 2 2] by rw [← hV, ← hg]; exact RowAt.new _ _ _)
        rw [hV, hg]
        have H9 := Lib.hid (Hb.out.to bV)
        have V9 := Lib.hid (Vb.out.to bV)
        have PA3 := Lib.hid (PA2.out.to bV)
        have R553 := Lib.hid (R552.out.to bV)
        have B9 := Lib.hid (Bb.out.trans (bV.mono Bb.out.size))
        clear hV bV hg Hb Vb PA2 R552 Bb
        have PA2 := PA3
        have PB2 := Lib.hid (HPQ2.out W9 gL2 g55 V9.out R553.out RL2.out)
        refine wpAnyH_ready (rs := [13]) (by kernel_rfl) (by simp) ?_
        refine AllReadyH.cons (o := _) rfl (fun K hK => ?_) AllReadyH.nil
        go_simp
        (go_at_call 12; (with_reducible refine (psame_yes PA2.out PB2.out pn2 rfl PP2 (Lib.hid rfl)).mono ?_); rintro e wx ⟨rfl, bx⟩; have vx := V9.out.to bx)
        go_wp2_with fail
        refine hK.out _ _ ?_ (fun hHeld => ?_)
        · exact vx
        clear hK K
        try simp only [Act.put, List.setIfInBounds_toArray, List.set_cons_zero, List.set_cons_succ]
        have HX := Lib.hid (H9.out.to bx)
        have BX := Lib.hid (B9.out.trans (bx.mono B9.out.size))
        clear bx vx PA2 PB2 PP2 H9 B9 V9
        refine takeD (i := 14) (oi := _) (v := ?vv50) (d := some 58) rfl (by kernel_rfl) (by kernel_rfl) (by kernel_rfl) (by kernel_rfl) (fun _ _ _ h => h) (Or.inl ⟨by kernel_rfl, ?_⟩) (by assumption) ?_
        rotate_left 1
        · intro W_ hSw; (try dsimp only at hSw); go_simp; (first | done | with_reducible rfl)
        try simp only [Act.put, List.setIfInBounds_toArray, List.set_cons_zero, List.set_cons_succ]
        refine takeD (i := 15) (oi := _) (v := ?vv51) (d := some 59) rfl (by kernel_rfl) (by kernel_rfl) (by kernel_rfl) (by kernel_rfl) (fun _ _ _ h => h) (Or.inl ⟨by kernel_rfl, ?_⟩) (by assumption) ?_
        rotate_left 1
        · intro W_ hSw; (try dsimp only at hSw); go_simp; (first | done | with_reducible rfl)
        try simp only [Act.put, List.setIfInBounds_toArray, List.set_cons_zero, List.set_cons_succ]
        refine takeD (i := 16) (oi := _) (v := ?vv52) (d := some 60) rfl (by kernel_rfl) (by kernel_rfl) (by kernel_rfl) (by kernel_rfl) (fun _ _ _ h => h) (Or.inl ⟨by kernel_rfl, ?_⟩) (by assumption) ?_
        rotate_left 1
        · intro W_ hSw; (try dsimp only at hSw); go_simp; (first | done | with_reducible rfl)
        try simp only [Act.put, List.setIfInBounds_toArray, List.set_cons_zero, List.set_cons_succ]
        refine wpAnyH_ready (rs := [17]) (by kernel_rfl) (by simp) ?_
        refine AllReadyH.cons (o := _) rfl (fun K hK => ?_) AllReadyH.nil
        go_simp
        (go_at_call 17; (with_reducible refine (aw_wait0 HX.out).mono ?_); rintro e wx ⟨rfl, rfl⟩)
        go_wp2_with fail
        refine hK.out _ _ ?_ (fun hHeld => ?_)
        · exact hHeld
        clear hK K
        try simp only [Act.put, List.setIfInBounds_toArray, List.set_cons_zero, List.set_cons_succ]
        refine takeD (i := 18) (oi := _) (v := ?vv53) (d := some 62) rfl (by kernel_rfl) (by kernel_rfl) (by kernel_rfl) (by kernel_rfl) (fun _ _ _ h => h) (Or.inl ⟨by kernel_rfl, ?_⟩) (by assumption) ?_
        rotate_left 1
        · intro W_ hSw; (try dsimp only at hSw); go_simp; (first | done | with_reducible rfl)
        try simp only [Act.put, List.setIfInBounds_toArray, List.set_cons_zero, List.set_cons_succ]
        refine takeD (i := 19) (oi := _) (v := ?vv54) (d := some 63) rfl (by kernel_rfl) (by kernel_rfl) (by kernel_rfl) (by kernel_rfl) (fun _ _ _ h => h) (Or.inl ⟨by kernel_rfl, ?_⟩) (by assumption) ?_
        rotate_left 1
        · intro W_ hSw; (try dsimp only at hSw); go_simp; (first | done | with_reducible rfl)
        try simp only [Act.put, List.setIfInBounds_toArray, List.set_cons_zero, List.set_cons_succ]
        refine takeD (i := 20) (oi := _) (v := ?vv55) (d := some 64) rfl (by kernel_rfl) (by kernel_rfl) (by kernel_rfl) (by kernel_rfl) (fun _ _ _ h => h) (Or.inl ⟨by kernel_rfl, ?_⟩) (by assumption) ?_
        rotate_left 1
        · intro W_ hSw; (try dsimp only at hSw); go_simp; (first | done | with_reducible rfl)
        try simp only [Act.put, List.setIfInBounds_toArray, List.set_cons_zero, List.set_cons_succ]
        refine takeD (i := 21) (oi := _) (v := ?vv56) (d := some 65) rfl (by kernel_rfl) (by kernel_rfl) (by kernel_rfl) (by kernel_rfl) (fun _ _ _ h => h) (Or.inl ⟨by kernel_rfl, ?_⟩) (by assumption) ?_
        rotate_left 1
        · intro W_ hSw; (try dsimp only at hSw); go_simp; (first | done | with_reducible rfl)
        try simp only [Act.put, List.setIfInBounds_toArray, List.set_cons_zero, List.set_cons_succ]
        refine wpAnyH_ready (rs := [22]) (by kernel_rfl) (by simp) ?_
        refine AllReadyH.cons (o := _) rfl (fun K hK => ?_) AllReadyH.nil
        go_simp
        (go_at_call 18; (with_reducible refine (aw_time2 HX.out).mono ?_); rintro e wx ⟨rfl, rfl⟩)
        go_wp2_with fail
        refine hK.out _ _ ?_ (fun hHeld => ?_)
        · exact hHeld
        clear hK K
        try simp only [Act.put, List.setIfInBounds_toArray, List.set_cons_zero, List.set_cons_succ]
        refine takeD (i := 23) (oi := _) (v := ?vv57) (d := some 67) rfl (by kernel_rfl) (by kernel_rfl) (by kernel_rfl) (by kernel_rfl) (fun _ _ _ h => h) (Or.inl ⟨by kernel_rfl, ?_⟩) (by assumption) ?_
        rotate_left 1
        · intro W_ hSw; (try dsimp only at hSw); go_simp; (first | done | with_reducible rfl)
        try simp only [Act.put, List.setIfInBounds_toArray, List.set_cons_zero, List.set_cons_succ]
        refine takeD (i := 24) (oi := _) (v := ?vv58) (d := some 68) rfl (by kernel_rfl) (by kernel_rfl) (by kernel_rfl) (by kernel_rfl) (fun _ _ _ h => h) (Or.inl ⟨by kernel_rfl, ?_⟩) (by assumption) ?_
        rotate_left 1
        · intro W_ hSw; (try dsimp only at hSw); go_simp; (first | done | with_reducible rfl)
        try simp only [Act.put, List.setIfInBounds_toArray, List.set_cons_zero, List.set_cons_succ]
        refine takeD (i := 25) (oi := _) (v := ?vv59) (d := some 0) rfl (by kernel_rfl) (by kernel_rfl) (by kernel_rfl) (by kernel_rfl) (fun _ _ _ h => h) (Or.inl ⟨by kernel_rfl, ?_⟩) (by assumption) ?_
        rotate_left 1
        · intro W_ hSw; (try dsimp only at hSw); go_simp; (first | done | with_reducible rfl)
        try simp only [Act.put, List.setIfInBounds_toArray, List.set_cons_zero, List.set_cons_succ]
        refine wpAnyH_done (by kernel_rfl) ?_ _
        go_wp2
        go_ret
        exact ⟨rfl, BX.out⟩
      · go_simp
        refine hK.out _ _ ?_ (fun hHeld => ?_)
        · exact Va.out.to (bel_alloc (Below.refl _ _) _)
        clear hK K
        try simp only [Act.put]
        try simp only [List.setIfInBounds_toArray]
        try simp only [List.set_cons_succ]
        try simp only [List.set_cons_zero]
        have HNL : Hid (W1.heap.size ∉ bfoot gs gm rg E6) := Lib.hid (fun hm => by have := (Ha.out.foot_ge _ hm).2; omega)
        obtain ⟨gL2, hg⟩ : ∃ g, W1.heap.size = g := ⟨_, rfl⟩
        obtain ⟨W3, hV⟩ : ∃ V, W1.alloc (.cells #[.int .i64 0, .bool false, .slice (some ⟨g55, 0, none⟩) 2 2, .int .i64 1, .bool false, .slice (some ⟨g6, 0, none⟩) 2 2] 36) = V := ⟨_, rfl⟩
        have bV : Below W1.heap.size W1 W3 := by rw [← hV]; exact bel_alloc (Below.refl _ _) _
        have RL2 := Lib.hid (show RowAt W3 gL2 36 [.int .i64 0, .bool false, .slice (some ⟨g55, 0, none⟩) 2 2, .int .i64 1, .bool false, .slice (some ⟨g6, 0, none⟩) 2 2] by rw [← hV, ← hg]; exact RowAt.new _ _ _)
        rw [hg] at HNL
        rw [hV, hg]
        have Hb := Lib.hid (Ha.out.to bV)
        have Vb := Lib.hid (Va.out.to bV)
        have R552 := Lib.hid (R55.out.to bV)
        have Bb := Lib.hid (Ba.out.trans (bV.mono Ba.out.size))
        have Gb : Hid (gN ≤ W3.heap.size) := Lib.hid (Nat.le_trans Ga.out bV.size)
        clear hV bV hg Ha Va R55 Ba Ga
        refine wpAnyH_ready (rs := [8]) (by kernel_rfl) (by simp) ?_
        refine AllReadyH.cons (o := _) rfl (fun K hK => ?_) AllReadyH.nil
        go_simp
        (go_at_call 13; (with_reducible refine (aw_tick2 Hb.out).mono ?_); rintro e W9 ⟨E7, A2, c2, pl2, rfl, h, f, t, pc, pn2, pp⟩; have va := Vb.out.fr f (fun x hx => by have h1 := HLE.out; have h2 := FT6.out x hx; omega))
        go_wp2_with fail
        refine hK.out _ _ ?_ (fun hHeld => ?_)
        · exact va
        clear hK K
        try simp only [Act.put, List.setIfInBounds_toArray, List.set_cons_zero, List.set_cons_succ]
        have H9 := Lib.hid h
        have V9 := Lib.hid va
        have PA2 := Lib.hid pc
        have PP2 := pp
        have B9 := Lib.hid (Bb.out.trans (f.below (B := w.heap.size) (fun x hx => by have := (Hb.out.foot_ge x hx).1; have := BZ.out; omega) Bb.out.size))
        have PB2 := Lib.hid (HPQ2.out W9 gL2 g55 V9.out (f.row R552.out HN55.out) (f.row RL2.out HNL.out))
        clear h f t pc pp va Hb Vb Bb Gb FT6 R552 RL2
        refine wpAnyH_ready (rs := [13]) (by kernel_rfl) (by simp) ?_
        refine AllReadyH.cons (o := _) rfl (fun K hK => ?_) AllReadyH.nil
        go_simp
        (go_at_call 12; (with_reducible refine (psame_yes PA2.out PB2.out pn2 rfl PP2 (Lib.hid rfl)).mono ?_); rintro e wx ⟨rfl, bx⟩; have vx := V9.out.to bx)
        go_wp2_with fail
        refine hK.out _ _ ?_ (fun hHeld => ?_)
        · exact vx
        clear hK K
        try simp only [Act.put, List.setIfInBounds_toArray, List.set_cons_zero, List.set_cons_succ]
        have HX := Lib.hid (H9.out.to bx)
        have BX := Lib.hid (B9.out.trans (bx.mono B9.out.size))
        clear bx vx PA2 PB2 PP2 H9 B9 V9
        refine takeD (i := 14) (oi := _) (v := ?vv60) (d := some 58) rfl (by kernel_rfl) (by kernel_rfl) (by kernel_rfl) (by kernel_rfl) (fun _ _ _ h => h) (Or.inl ⟨by kernel_rfl, ?_⟩) (by assumption) ?_
        rotate_left 1
        · intro W_ hSw; (try dsimp only at hSw); go_simp; (first | done | with_reducible rfl)
        try simp only [Act.put, List.setIfInBounds_toArray, List.set_cons_zero, List.set_cons_succ]
        refine takeD (i := 15) (oi := _) (v := ?vv61) (d := some 59) rfl (by kernel_rfl) (by kernel_rfl) (by kernel_rfl) (by kernel_rfl) (fun _ _ _ h => h) (Or.inl ⟨by kernel_rfl, ?_⟩) (by assumption) ?_
        rotate_left 1
        · intro W_ hSw; (try dsimp only at hSw); go_simp; (first | done | with_reducible rfl)
        try simp only [Act.put, List.setIfInBounds_toArray, List.set_cons_zero, List.set_cons_succ]
        refine takeD (i := 16) (oi := _) (v := ?vv62) (d := some 60) rfl (by kernel_rfl) (by kernel_rfl) (by kernel_rfl) (by kernel_rfl) (fun _ _ _ h => h) (Or.inl ⟨by kernel_rfl, ?_⟩) (by assumption) ?_
        rotate_left 1
        · intro W_ hSw; (try dsimp only at hSw); go_simp; (first | done | with_reducible rfl)
        try simp only [Act.put, List.setIfInBounds_toArray, List.set_cons_zero, List.set_cons_succ]
        refine wpAnyH_ready (rs := [17]) (by kernel_rfl) (by simp) ?_
        refine AllReadyH.cons (o := _) rfl (fun K hK => ?_) AllReadyH.nil
        go_simp
        (go_at_call 17; (with_reducible refine (aw_wait0 HX.out).mono ?_); rintro e wx ⟨rfl, rfl⟩)
        go_wp2_with fail
        refine hK.out _ _ ?_ (fun hHeld => ?_)
        · exact hHeld
        clear hK K
        try simp only [Act.put, List.setIfInBounds_toArray, List.set_cons_zero, List.set_cons_succ]
        refine takeD (i := 18) (oi := _) (v := ?vv63) (d := some 62) rfl (by kernel_rfl) (by kernel_rfl) (by kernel_rfl) (by kernel_rfl) (fun _ _ _ h => h) (Or.inl ⟨by kernel_rfl, ?_⟩) (by assumption) ?_
        rotate_left 1
        · intro W_ hSw; (try dsimp only at hSw); go_simp; (first | done | with_reducible rfl)
        try simp only [Act.put, List.setIfInBounds_toArray, List.set_cons_zero, List.set_cons_succ]
        refine takeD (i := 19) (oi := _) (v := ?vv64) (d := some 63) rfl (by kernel_rfl) (by kernel_rfl) (by kernel_rfl) (by kernel_rfl) (fun _ _ _ h => h) (Or.inl ⟨by kernel_rfl, ?_⟩) (by assumption) ?_
        rotate_left 1
        · intro W_ hSw; (try dsimp only at hSw); go_simp; (first | done | with_reducible rfl)
        try simp only [Act.put, List.setIfInBounds_toArray, List.set_cons_zero, List.set_cons_succ]
        refine takeD (i := 20) (oi := _) (v := ?vv65) (d := some 64) rfl (by kernel_rfl) (by kernel_rfl) (by kernel_rfl) (by kernel_rfl) (fun _ _ _ h => h) (Or.inl ⟨by kernel_rfl, ?_⟩) (by assumption) ?_
        rotate_left 1
        · intro W_ hSw; (try dsimp only at hSw); go_simp; (first | done | with_reducible rfl)
        try simp only [Act.put, List.setIfInBounds_toArray, List.set_cons_zero, List.set_cons_succ]
        refine takeD (i := 21) (oi := _) (v := ?vv66) (d := some 65) rfl (by kernel_rfl) (by kernel_rfl) (by kernel_rfl) (by kernel_rfl) (fun _ _ _ h => h) (Or.inl ⟨by kernel_rfl, ?_⟩) (by assumption) ?_
        rotate_left 1
        · intro W_ hSw; (try dsimp only at hSw); go_simp; (first | done | with_reducible rfl)
        try simp only [Act.put, List.setIfInBounds_toArray, List.set_cons_zero, List.set_cons_succ]
        refine wpAnyH_ready (rs := [22]) (by kernel_rfl) (by simp) ?_
        refine AllReadyH.cons (o := _) rfl (fun K hK => ?_) AllReadyH.nil
        go_simp
        (go_at_call 18; (with_reducible refine (aw_time2 HX.out).mono ?_); rintro e wx ⟨rfl, rfl⟩)
        go_wp2_with fail
        refine hK.out _ _ ?_ (fun hHeld => ?_)
        · exact hHeld
        clear hK K
        try simp only [Act.put, List.setIfInBounds_toArray, List.set_cons_zero, List.set_cons_succ]
        refine takeD (i := 23) (oi := _) (v := ?vv67) (d := some 67) rfl (by kernel_rfl) (by kernel_rfl) (by kernel_rfl) (by kernel_rfl) (fun _ _ _ h => h) (Or.inl ⟨by kernel_rfl, ?_⟩) (by assumption) ?_
        rotate_left 1
        · intro W_ hSw; (try dsimp only at hSw); go_simp; (first | done | with_reducible rfl)
        try simp only [Act.put, List.setIfInBounds_toArray, List.set_cons_zero, List.set_cons_succ]
        refine takeD (i := 24) (oi := _) (v := ?vv68) (d := some 68) rfl (by kernel_rfl) (by kernel_rfl) (by kernel_rfl) (by kernel_rfl) (fun _ _ _ h => h) (Or.inl ⟨by kernel_rfl, ?_⟩) (by assumption) ?_
        rotate_left 1
        · intro W_ hSw; (try dsimp only at hSw); go_simp; (first | done | with_reducible rfl)
        try simp only [Act.put, List.setIfInBounds_toArray, List.set_cons_zero, List.set_cons_succ]
        refine takeD (i := 25) (oi := _) (v := ?vv69) (d := some 0) rfl (by kernel_rfl) (by kernel_rfl) (by kernel_rfl) (by kernel_rfl) (fun _ _ _ h => h) (Or.inl ⟨by kernel_rfl, ?_⟩) (by assumption) ?_
        rotate_left 1
        · intro W_ hSw; (try dsimp only at hSw); go_simp; (first | done | with_reducible rfl)
        try simp only [Act.put, List.setIfInBounds_toArray, List.set_cons_zero, List.set_cons_succ]
        refine wpAnyH_done (by kernel_rfl) ?_ _
        go_wp2
        go_ret
        exact ⟨rfl, BX.out⟩
end Go.Proofs.Ythigkmoilfdciaa
