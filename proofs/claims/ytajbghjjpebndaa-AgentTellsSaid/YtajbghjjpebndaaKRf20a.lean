/- saucierref20.Words, Read. -/
import Derived.Test.YtajbghjjpebndaaKAgWd
namespace Go.Proofs.Ytajbghjjpebndaa
set_option maxRecDepth 100000
open Go.RowKit
set_option linter.unusedVariables false
set_option linter.unusedSimpArgs false
attribute [local go_sem] Later.cell Later.frozen
theorem wrap16_in (x : Nat) (h : x < 65536) : IntKind.u16.wrap (x : Int) = (x : Int) := by rw [wrap_u16]; omega
theorem wrap32_in (x : Nat) (h : x < 4294967296) : IntKind.u32.wrap (x : Int) = (x : Int) := by
  have : IntKind.u32.wrap (x : Int) = (x : Int) % 4294967296 := by simp [IntKind.wrap, IntKind.bits, IntKind.signed]
  omega
set_option maxHeartbeats 1000000 in
theorem rwords_any (q : Cmd) (hq : q.Fit) (w : World) :
    Calls Try.prog 25 #[.agg (cmdL q).toArray] w (AwdP (wd q) w) := by
  obtain ⟨ow, v, tx, n, ck⟩ := q
  obtain ⟨t1, ht1⟩ : ∃ x, tx / 65536 = x := ⟨_, rfl⟩
  obtain ⟨t2, ht2⟩ : ∃ x, tx % 65536 = x := ⟨_, rfl⟩
  obtain ⟨c1, hc1⟩ : ∃ x, ck / 65536 = x := ⟨_, rfl⟩
  obtain ⟨c2, hc2⟩ : ∃ x, ck % 65536 = x := ⟨_, rfl⟩
  have HWD : Hid (wd ⟨ow, v, tx, n, ck⟩ = [ow, v, t1, t2, n, c1, c2, 0]) := Lib.hid (by rw [← ht1, ← ht2, ← hc1, ← hc2]; rfl)
  have hv : v < 256 := hq.v
  have htx : tx < 4294967296 := hq.tx
  have hck : ck < 4294967296 := hq.ck
  have e1 : (tx : Int) / 65536 = (t1 : Int) := by omega
  have e2 : (tx : Int) % 65536 = (t2 : Int) := by omega
  have e3 : (ck : Int) / 65536 = (c1 : Int) := by omega
  have e4 : (ck : Int) % 65536 = (c2 : Int) := by omega
  have b1 := wrap16_in t1 (by omega)
  have b2 := wrap16_in t2 (by omega)
  have b3 := wrap16_in c1 (by omega)
  have b4 := wrap16_in c2 (by omega)
  clear hq ht1 ht2 hc1 hc2
  go_enter Try.func25, Try.ntmps25
  go_upto_region 1 with fail
  obtain ⟨w0, hw0⟩ : ∃ w_q_, w_q_ = w.alloc (.cells (cmdL ⟨ow, v, tx, n, ck⟩).toArray 41) := ⟨_, rfl⟩
  rw [← hw0]
  have r0 : RowAt w0 w.heap.size 41 (cmdL ⟨ow, v, tx, n, ck⟩) := by rw [hw0]; exact RowAt.new w _ _
  have b0 : Below w.heap.size w w0 := by rw [hw0]; exact bel_alloc (Below.refl _ _) _
  have z0 := b0.size
  have R0 := Lib.hid r0
  clear hw0 r0
  have qlt : w.heap.size < (w0).heap.size := R0.out.lt
  have qlu : w.heap.size < (w0).heap.size + 1 := Nat.lt_succ_of_lt R0.out.lt
  have q0 : (w0).cell? ⟨w.heap.size, 0, none⟩ = some (.int .u16 (ow : Int)) := R0.out.cells 0
  have qz0 : (w0).frozen? ⟨w.heap.size, 0, none⟩ = false := R0.out.frozen 0
  have q1 : (w0).cell? ⟨w.heap.size, 1, none⟩ = some (.int .u8 (v : Int)) := R0.out.cells 1
  have qz1 : (w0).frozen? ⟨w.heap.size, 1, none⟩ = false := R0.out.frozen 1
  have q2 : (w0).cell? ⟨w.heap.size, 2, none⟩ = some (.int .u32 (tx : Int)) := R0.out.cells 2
  have qz2 : (w0).frozen? ⟨w.heap.size, 2, none⟩ = false := R0.out.frozen 2
  have q3 : (w0).cell? ⟨w.heap.size, 3, none⟩ = some (.int .u16 (n : Int)) := R0.out.cells 3
  have qz3 : (w0).frozen? ⟨w.heap.size, 3, none⟩ = false := R0.out.frozen 3
  have q4 : (w0).cell? ⟨w.heap.size, 4, none⟩ = some (.int .u32 (ck : Int)) := R0.out.cells 4
  have qz4 : (w0).frozen? ⟨w.heap.size, 4, none⟩ = false := R0.out.frozen 4
  go_wp2
  go_ret
  refine ⟨bel_alloc b0 _, w0.heap.size, z0, rfl, ?_⟩
  rw [HWD.out]
  exact Sq.lits _ _ _ _ _ _ _ rfl rfl (by rw [World.size_alloc]; exact Nat.lt_succ_self _)
set_option maxHeartbeats 1000000 in
theorem rread_any (A : Option Addr) (l : List Nat) (n c : Nat) (w : World) (hn : l.length = n) (hs : Sq u16w w w.heap.size A l) (hu : ∀ x ∈ l, x < 65536) :
    Calls Try.prog 23 #[.slice A n c] w fun e w' => e = .returned (.tuple #[.agg (cmdL (rd l).1).toArray, .int .i64 (rd l).2]) ∧ Below w.heap.size w w' := by
  obtain ⟨R, hR⟩ : ∃ R, rd l = R := ⟨_, rfl⟩
  rw [hR]
  have HRD := Lib.hid hR
  clear hR
  go_enter Try.func23, Try.ntmps23
  go_upto_region 1 with fail
  obtain ⟨w0, hw0⟩ : ∃ w_q_, w_q_ = w.alloc (.cells #[.int .u16 0, .int .u8 0, .int .u32 0, .int .u16 0, .int .u32 0] 41) := ⟨_, rfl⟩
  rw [← hw0]
  have r0 : RowAt w0 w.heap.size 41 [.int .u16 0, .int .u8 0, .int .u32 0, .int .u16 0, .int .u32 0] := by rw [hw0]; exact RowAt.new w _ _
  have b0 : Below w.heap.size w w0 := by rw [hw0]; exact bel_alloc (Below.refl _ _) _
  have z0 : w0.heap.size = w.heap.size + 1 := by rw [hw0, World.size_alloc]
  have R0 := Lib.hid r0
  have B0 := Lib.hid b0
  replace hs := (hs.below b0).more b0.size
  clear hw0 r0 b0
  by_cases h8 : l.length = 8
  rotate_left
  · have u1 : ((n : Int) != 8) = true := bne_iff_ne.2 (by omega)
    obtain rfl : (⟨0, 0, 0, 0, 0⟩, 2) = R := by rw [← HRD.out]; exact (if_neg (fun q => h8 q.1)).symm
    clear HRD
    clear h8 hn hs
    go_wp2_with (refine wpList_store_var rfl 41 (.tmp 2) (.tmp 19) rfl w.heap.size _ (cmdL ⟨0, 0, 0, 0, 0⟩) 5 rfl rfl R0.out size_cmdw rfl rfl (cmdL_onew _) ?_; intro w_5 r_5 k_5)
    exact bodyPost_ret (results_cell_tmp rfl _ _ w.heap.size 41 _ (0, 0) _ rfl r_5 Try.underlying41 rfl (by kernel_rfl)) rfl ⟨rfl, k_5.to B0.out (Nat.le_refl _)⟩
  subst hn
  rw [h8]
  obtain ⟨a0, a1, a2, a3, a4, a5, a6, a7, rfl⟩ := eight l h8
  clear h8
  obtain ⟨b, o, _, rfl, hbl, _, _⟩ := hs.at_ (j := 0) (by simp)
  have cc : ∀ j x : Nat, ([a0, a1, a2, a3, a4, a5, a6, a7] : List Nat)[j]? = some x → w0.cell? ⟨b, o + j, none⟩ = some (.int .u16 (x : Int)) := fun (j x : Nat) hx => by
    obtain ⟨b', o', x', hA, _, hx', hc⟩ := hs.at_ (j := j) (List.getElem?_eq_some_iff.1 hx).1
    cases hA
    rw [hx] at hx'
    cases hx'
    exact hc
  have c0 := cc 0 _ rfl
  have c1 := cc 1 _ rfl
  have c2 := cc 2 _ rfl
  have c3 := cc 3 _ rfl
  have c4 := cc 4 _ rfl
  have c5 := cc 5 _ rfl
  have c6 := cc 6 _ rfl
  have c7 := cc 7 _ rfl
  simp only [Nat.add_zero] at c0
  have h0 := hu a0 (by simp)
  have h1 := hu a1 (by simp)
  have h2 := hu a2 (by simp)
  have h3 := hu a3 (by simp)
  have h4 := hu a4 (by simp)
  have h5 := hu a5 (by simp)
  have h6 := hu a6 (by simp)
  have h7 := hu a7 (by simp)
  clear cc hu hs
  by_cases t7 : a7 = 0
  rotate_left
  · have u7 : ((a7 : Int) != 0) = true := bne_iff_ne.2 (by omega)
    obtain rfl : (⟨0, 0, 0, 0, 0⟩, 2) = R := by rw [← HRD.out]; exact (if_neg (fun q => t7 q.2.1)).symm
    clear HRD
    clear t7
    go_wp2_with (refine wpList_store_var rfl 41 (.tmp 2) (.tmp 19) rfl w.heap.size _ (cmdL ⟨0, 0, 0, 0, 0⟩) 5 rfl rfl R0.out size_cmdw rfl rfl (cmdL_onew _) ?_; intro w_5 r_5 k_5)
    exact bodyPost_ret (results_cell_tmp rfl _ _ w.heap.size 41 _ (0, 0) _ rfl r_5 Try.underlying41 rfl (by kernel_rfl)) rfl ⟨rfl, k_5.to B0.out (Nat.le_refl _)⟩
  have u7 : ((a7 : Int) != 0) = false := by simp [t7]
  by_cases t1 : a1 < 256
  rotate_left
  · have u1 : decide ((256 : Int) ≤ (a1 : Int)) = true := decide_eq_true (by omega)
    obtain rfl : (⟨0, 0, 0, 0, 0⟩, 2) = R := by rw [← HRD.out]; exact (if_neg (fun q => t1 q.2.2)).symm
    clear HRD
    clear t7
    go_wp2_with (refine wpList_store_var rfl 41 (.tmp 2) (.tmp 19) rfl w.heap.size _ (cmdL ⟨0, 0, 0, 0, 0⟩) 5 rfl rfl R0.out size_cmdw rfl rfl (cmdL_onew _) ?_; intro w_5 r_5 k_5)
    exact bodyPost_ret (results_cell_tmp rfl _ _ w.heap.size 41 _ (0, 0) _ rfl r_5 Try.underlying41 rfl (by kernel_rfl)) rfl ⟨rfl, k_5.to B0.out (Nat.le_refl _)⟩
  have u1 : decide ((256 : Int) ≤ (a1 : Int)) = false := decide_eq_false (by omega)
  obtain ⟨x, hx⟩ : ∃ x, 65536 * a2 + a3 = x := ⟨_, rfl⟩
  obtain ⟨y, hy⟩ : ∃ y, 65536 * a5 + a6 = y := ⟨_, rfl⟩
  obtain rfl : (⟨a0, a1, x, a4, y⟩, 0) = R := by rw [← HRD.out, ← hx, ← hy]; exact (if_pos ⟨rfl, t7, t1⟩).symm
  have v2 := wrap32_in a2 (by omega)
  have v3 := wrap32_in a3 (by omega)
  have v5 := wrap32_in a5 (by omega)
  have v6 := wrap32_in a6 (by omega)
  have vx := wrap32_in x (by omega)
  have vy := wrap32_in y (by omega)
  have n2 : IntKind.u32.wrap ((a2 : Int) * 65536) = (a2 : Int) * 65536 := by
    have : IntKind.u32.wrap ((a2 : Int) * 65536) = ((a2 : Int) * 65536) % 4294967296 := by simp [IntKind.wrap, IntKind.bits, IntKind.signed]
    omega
  have n5 : IntKind.u32.wrap ((a5 : Int) * 65536) = (a5 : Int) * 65536 := by
    have : IntKind.u32.wrap ((a5 : Int) * 65536) = ((a5 : Int) * 65536) % 4294967296 := by simp [IntKind.wrap, IntKind.bits, IntKind.signed]
    omega
  have m1 : (a2 : Int) * 65536 + (a3 : Int) = (x : Int) := by omega
  have m2 : (a5 : Int) * 65536 + (a6 : Int) = (y : Int) := by omega
  have hw1 : IntKind.u8.wrap (a1 : Int) = (a1 : Int) := by
    have : IntKind.u8.wrap (a1 : Int) = (a1 : Int) % 256 := by simp [IntKind.wrap, IntKind.bits, IntKind.signed]
    omega
  clear t7 hx hy
  go_upto_region 3 with fail
  go_still_tail 31, (by kernel_rfl)
  change wpList _ _ _ _ _ w0.drew
  try rw [hw1]
  try rw [m1]
  try rw [m2]
  refine wpList_store_var rfl 41 (.tmp 2) (.tmp 50) rfl w.heap.size _ (cmdL ⟨a0, a1, x, a4, y⟩) 5 rfl rfl R0.out.drew size_cmdw rfl rfl (cmdL_onew _) ?_
  intro w_5 r_5 k_5
  go_wp2
  exact bodyPost_ret (results_cell_tmp rfl _ _ w.heap.size 41 _ (0, 0) _ rfl r_5 Try.underlying41 rfl (by kernel_rfl)) rfl ⟨rfl, k_5.to B0.out.drew (Nat.le_refl _)⟩
end Go.Proofs.Ytajbghjjpebndaa
