/- Layer 9: awake. -/
import Derived.Test.YtpjdgnoekplldaaDkLit
namespace Go.Proofs.Ytpjdgnoekplldaa
open Go.RowKit
set_option linter.unusedVariables false
attribute [local go_sem] Later.cell Later.frozen setCell_twice
set_option maxRecDepth 100000 in
set_option maxHeartbeats 1000000 in
theorem awake_any (w : World) : Calls Try.prog 9 #[] w fun e w' => e = .returned (.bool true) ∧ Below w.heap.size w w' := by
  obtain ⟨i0, hif, hz0, hz1, hz2⟩ := info_parts info_b8
  go_enter Try.func9, Try.ntmps9
  go_wp2_with fail
  refine (new_any 9 _ (by decide)).mono ?_
  rintro e_ w1 ⟨rfl, k1, b1⟩
  have K1 := Lib.hid k1
  have B1 := Lib.hid b1
  clear k1 b1
  go_wp2_with fail
  refine (append_lit (D' := ⟨9, [1, 2, 3], 0, none, false⟩) (E := 0) K1.out [1, 2, 3] _ 3 _ rfl rfl rfl (by decide) (by decide) rfl).mono ?_
  rintro e_ w2 ⟨A2, c2, rfl, k2, m2, f2⟩
  have B2 := Lib.hid (B1.out.trans (K1.out.moves m2))
  have K2 := Lib.hid k2
  clear k2 m2 f2 B1 K1
  go_wp2_with fail
  refine (sync_lit (D' := ⟨9, [1, 2, 3], 3, none, false⟩) (E := 0) K2.out rfl).mono ?_
  rintro e_ w3 ⟨A3, c3, rfl, k3, m3, f3⟩
  have B3 := Lib.hid (B2.out.trans (K2.out.moves m3))
  have K3 := Lib.hid k3
  clear k3 m3 f3 B2 K2
  go_wp2_with fail
  refine (append_lit (D' := ⟨9, [1, 2, 3, 4, 5], 3, none, false⟩) (E := 0) K3.out [4, 5] _ 2 _ rfl rfl rfl (by decide) (by decide) rfl).mono ?_
  rintro e_ w4 ⟨A4, c4, rfl, k4, m4, f4⟩
  have B4 := Lib.hid (B3.out.trans (K3.out.moves m4))
  have K4 := Lib.hid k4
  clear k4 m4 f4 B3 K3
  go_wp2_with fail
  refine (crash_any K4.out 1 (by decide) (by decide)).mono ?_
  rintro e_ w5 ⟨rfl, k5, m5⟩
  have B5 := Lib.hid (B4.out.trans (m5.below K4.out.base))
  have K5 : Hid (DkAt w5 w.heap.size w.heap.size _ _ ⟨9, [1, 2, 3, 4], 4, none, false⟩) := Lib.hid k5
  clear k5 m5 B4 K4
  go_wp2_with fail
  refine (bytes_any K5.out).mono ?_
  rintro e_ w6 ⟨A6, c6, rfl, o6, b6⟩
  have B6 := Lib.hid (B5.out.trans (b6.mono B5.out.size))
  have K6 := Lib.hid (K5.out.to b6)
  have O6 := Lib.hid (Sq.of_own o6)
  clear o6 b6 B5 K5
  go_wp2_with fail
  refine (same_by _ _ [1, 2, 3, 4] [1, 2, 3, 4] _ _ 4 4 true _ rfl rfl ((O6.out.below (bel_alloc (Below.refl _ _) _)).more (by simp)) (Sq.lits _ _ _ _ _ _ _ (by simp) (by simp) (by simp)) (by decide) (by decide) (by decide)).mono ?_
  rintro e_ w_ ⟨rfl, rfl⟩
  clear O6
  obtain ⟨w7, hw7⟩ : ∃ W, W = w6.alloc (.cells #[.int .u8 1, .int .u8 2, .int .u8 3, .int .u8 4] 5) := ⟨_, rfl⟩
  rw [← hw7]
  have B7 : Hid (Below w.heap.size w w7) := Lib.hid (by rw [hw7]; exact bel_alloc B6.out _)
  have K7 := Lib.hid (K6.out.to (show Below w6.heap.size w6 w7 by rw [hw7]; exact bel_alloc (Below.refl _ _) _))
  clear hw7 B6 K6
  go_wp2_with fail
  refine (safe_any K7.out).mono ?_
  rintro e_ w_ ⟨rfl, rfl⟩
  go_wp2_with fail
  refine (sparks_any K7.out 2 (by decide)).mono ?_
  rintro e_ w8 ⟨rfl, k8, m8⟩
  have B8 := Lib.hid (B7.out.trans (m8.below K7.out.base))
  have K8 : Hid (DkAt w8 w.heap.size w.heap.size _ _ ⟨9, [1, 2, 3, 4], 4, some 2, false⟩) := Lib.hid k8
  clear k8 m8 B7 K7
  go_wp2_with fail
  refine (append_lit (D' := ⟨9, [1, 2, 3, 4, 6, 7], 4, some 0, true⟩) (E := 6) K8.out [6, 7, 8] _ 3 _ rfl rfl rfl (by decide) (by decide) rfl).mono ?_
  rintro e_ w9 ⟨A9, c9, rfl, k9, m9, f9⟩
  have B9 := Lib.hid (B8.out.trans (K8.out.moves m9))
  have K9 := Lib.hid k9
  clear k9 m9 f9 B8 K8
  go_wp2_with fail
  refine (bytes_any K9.out).mono ?_
  rintro e_ w10 ⟨A10, c10, rfl, o10, b10⟩
  have B10 := Lib.hid (B9.out.trans (b10.mono B9.out.size))
  have K10 := Lib.hid (K9.out.to b10)
  have O10 := Lib.hid (Sq.of_own o10)
  clear o10 b10 B9 K9
  go_wp2_with fail
  refine (same_by _ _ [1, 2, 3, 4, 6, 7] [1, 2, 3, 4, 6, 7] _ _ 6 6 true _ rfl rfl ((O10.out.below (bel_alloc (Below.refl _ _) _)).more (by simp)) (Sq.lits _ _ _ _ _ _ _ (by simp) (by simp) (by simp)) (by decide) (by decide) (by decide)).mono ?_
  rintro e_ w_ ⟨rfl, rfl⟩
  clear O10
  obtain ⟨w11, hw11⟩ : ∃ W, W = w10.alloc (.cells #[.int .u8 1, .int .u8 2, .int .u8 3, .int .u8 4, .int .u8 6, .int .u8 7] 5) := ⟨_, rfl⟩
  rw [← hw11]
  have B11 : Hid (Below w.heap.size w w11) := Lib.hid (by rw [hw11]; exact bel_alloc B10.out _)
  have K11 := Lib.hid (K10.out.to (show Below w10.heap.size w10 w11 by rw [hw11]; exact bel_alloc (Below.refl _ _) _))
  clear hw11 B10 K10
  go_wp2_with fail
  refine (sync_lit (D' := ⟨9, [1, 2, 3, 4, 6, 7], 4, some 0, true⟩) (E := 6) K11.out rfl).mono ?_
  rintro e_ w12 ⟨A12, c12, rfl, k12, m12, f12⟩
  have B12 := Lib.hid (B11.out.trans (K11.out.moves m12))
  have K12 := Lib.hid k12
  clear k12 m12 f12 B11 K11
  go_wp2_with fail
  refine (crash_any K12.out 0 (by decide) (by decide)).mono ?_
  rintro e_ w13 ⟨rfl, k13, m13⟩
  have B13 := Lib.hid (B12.out.trans (m13.below K12.out.base))
  have K13 : Hid (DkAt w13 w.heap.size w.heap.size _ _ ⟨9, [1, 2, 3, 4], 4, none, false⟩) := Lib.hid k13
  clear k13 m13 B12 K12
  go_wp2_with fail
  refine (bytes_any K13.out).mono ?_
  rintro e_ w14 ⟨A14, c14, rfl, o14, b14⟩
  have B14 := Lib.hid (B13.out.trans (b14.mono B13.out.size))
  have K14 := Lib.hid (K13.out.to b14)
  have O14 := Lib.hid (Sq.of_own o14)
  clear o14 b14 B13 K13
  go_wp2_with fail
  refine (same_by _ _ [1, 2, 3, 4] [1, 2, 3, 4] _ _ 4 4 true _ rfl rfl ((O14.out.below (bel_alloc (Below.refl _ _) _)).more (by simp)) (Sq.lits _ _ _ _ _ _ _ (by simp) (by simp) (by simp)) (by decide) (by decide) (by decide)).mono ?_
  rintro e_ w_ ⟨rfl, rfl⟩
  clear O14
  obtain ⟨w15, hw15⟩ : ∃ W, W = w14.alloc (.cells #[.int .u8 1, .int .u8 2, .int .u8 3, .int .u8 4] 5) := ⟨_, rfl⟩
  rw [← hw15]
  have B15 : Hid (Below w.heap.size w w15) := Lib.hid (by rw [hw15]; exact bel_alloc B14.out _)
  have K15 := Lib.hid (K14.out.to (show Below w14.heap.size w14 w15 by rw [hw15]; exact bel_alloc (Below.refl _ _) _))
  clear hw15 B14 K14
  go_wp2_with (at_make; refine wpList_make_full_g _ rfl _ _ 22 rfl w15.heap.size 5 i0 (.int .u8 0) 1 Try.underlying22 hif hz0 hz1 _ _ _ _ 6 rfl rfl rfl rfl (by rw [hz2]; decide) (by decide) (by simp) ?_; intro w16 o16 hg16; have b16 : Below w15.heap.size w15 w16 := (Below.refl _ _).grown hg16 (Nat.le_refl _) (by simp); have O16 := Lib.hid (show w16.ownsRow w15.heap.size 5 1 (.slice (some ⟨w15.heap.size, 0, none⟩) 6 6) 6 ((List.replicate 6 0).map byw) by rw [← made_b]; simpa using o16); have B16 := Lib.hid (B15.out.trans (b16.mono B15.out.size)); have K16 := Lib.hid (K15.out.to b16); clear o16 hg16 b16)
  have hA16 := own_at K15.out.own
  have hg16 := K15.out.lt
  refine ((append_any K16.out (some ⟨w15.heap.size, 0, none⟩) 6 6 (List.replicate 6 0) rfl (by decide) (Sq.of_own O16.out) (by decide) (fun _ p hp => by obtain rfl := Option.some.inj hp; show w15.heap.size ≠ _; omega) (fun _ p q hp hq => by obtain rfl := Option.some.inj hp; have := (hA16 q hq).2.1; show q.block ≠ w15.heap.size; omega)).mono (fun e w' ho => ho.lit (D' := ⟨9, [1, 2, 3, 4], 4, none, false⟩) (E := 5) rfl)).mono ?_
  rintro e_ w17 ⟨A17, c17, rfl, k17, m17, f17⟩
  have B17 := Lib.hid (B16.out.trans (K16.out.moves m17))
  have K17 := Lib.hid k17
  clear k17 m17 f17 B16 K16 O16 hA16 hg16
  go_wp2_with fail
  refine (cut_lit (D' := ⟨9, [1, 2], 2, none, false⟩) (E := 0) K17.out 2 (by decide) (by decide) rfl).mono ?_
  rintro e_ w18 ⟨A18, c18, rfl, k18, m18, f18⟩
  have B18 := Lib.hid (B17.out.trans (K17.out.moves m18))
  have K18 := Lib.hid k18
  clear k18 m18 f18 B17 K17
  go_wp2_with fail
  refine (bytes_any K18.out).mono ?_
  rintro e_ w19 ⟨A19, c19, rfl, o19, b19⟩
  have B19 := Lib.hid (B18.out.trans (b19.mono B18.out.size))
  have K19 := Lib.hid (K18.out.to b19)
  have O19 := Lib.hid (Sq.of_own o19)
  clear o19 b19 B18 K18
  go_wp2_with fail
  refine (same_by _ _ [1, 2] [1, 2] _ _ 2 2 true _ rfl rfl ((O19.out.below (bel_alloc (Below.refl _ _) _)).more (by simp)) (Sq.lits _ _ _ _ _ _ _ (by simp) (by simp) (by simp)) (by decide) (by decide) (by decide)).mono ?_
  rintro e_ w_ ⟨rfl, rfl⟩
  clear O19
  obtain ⟨w20, hw20⟩ : ∃ W, W = w19.alloc (.cells #[.int .u8 1, .int .u8 2] 5) := ⟨_, rfl⟩
  rw [← hw20]
  have B20 : Hid (Below w.heap.size w w20) := Lib.hid (by rw [hw20]; exact bel_alloc B19.out _)
  have K20 := Lib.hid (K19.out.to (show Below w19.heap.size w19 w20 by rw [hw20]; exact bel_alloc (Below.refl _ _) _))
  clear hw20 B19 K19
  go_wp2
  go_ret
  exact ⟨rfl, B20.out⟩
end Go.Proofs.Ytpjdgnoekplldaa
