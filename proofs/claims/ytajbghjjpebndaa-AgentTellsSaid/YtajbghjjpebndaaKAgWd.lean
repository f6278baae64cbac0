/- agent.Words, Read and Status. -/
import Derived.Test.YtajbghjjpebndaaQ27
import Derived.Test.YtajbghjjpebndaaQ05
import Derived.StillTailTactics
namespace Go.Proofs.Ytajbghjjpebndaa
set_option maxRecDepth 100000
open Go.RowKit
set_option linter.unusedVariables false
set_option linter.unusedSimpArgs false
attribute [local go_sem] Later.cell Later.frozen
def wd (q : Cmd) : List Nat := [q.ow, q.v, q.tx / 65536, q.tx % 65536, q.n, q.ck / 65536, q.ck % 65536, 0]
def AwdP (l : List Nat) (w : World) (e : Ending) (w' : World) : Prop :=
  Below w.heap.size w w' ∧ ∃ b, w.heap.size ≤ b ∧ e = .returned (.slice (some ⟨b, 0, none⟩) 8 8) ∧ Sq u16w w' w'.heap.size (some ⟨b, 0, none⟩) l
theorem parts_as (x h l : Nat) (hx : x < 4294967296) (hh : x / 65536 = h) (hl : x % 65536 = l) (w : World) :
    Calls Try.prog 55 #[.int .u32 (x : Int)] w fun e w' => e = .returned (.tuple #[.int .u16 (h : Int), .int .u16 (l : Int)]) ∧ w = w' := by
  subst hh hl
  exact parts_any x w hx
set_option maxHeartbeats 1000000 in
theorem words_any (q : Cmd) (hq : q.Fit) (w : World) :
    Calls Try.prog 24 #[.agg (cmdL q).toArray] w (AwdP (wd q) w) := by
  obtain ⟨ow, v, tx, n, ck⟩ := q
  obtain ⟨t1, ht1⟩ : ∃ x, tx / 65536 = x := ⟨_, rfl⟩
  obtain ⟨t2, ht2⟩ : ∃ x, tx % 65536 = x := ⟨_, rfl⟩
  obtain ⟨c1, hc1⟩ : ∃ x, ck / 65536 = x := ⟨_, rfl⟩
  obtain ⟨c2, hc2⟩ : ∃ x, ck % 65536 = x := ⟨_, rfl⟩
  have k1 := Lib.hid (parts_as tx t1 t2 hq.tx ht1 ht2)
  have k2 := Lib.hid (parts_as ck c1 c2 hq.ck hc1 hc2)
  have HWD : Hid (wd ⟨ow, v, tx, n, ck⟩ = [ow, v, t1, t2, n, c1, c2, 0]) := Lib.hid (by rw [← ht1, ← ht2, ← hc1, ← hc2]; rfl)
  have hv : v < 256 := hq.v
  clear hq ht1 ht2 hc1 hc2
  go_enter Try.func24, Try.ntmps24
  go_upto_region 1 with fail
  obtain ⟨w0, hw0⟩ : ∃ w_q_, w_q_ = w.alloc (.cells (cmdL ⟨ow, v, tx, n, ck⟩).toArray 41) := ⟨_, rfl⟩
  rw [← hw0]
  have r0 : RowAt w0 w.heap.size 41 (cmdL ⟨ow, v, tx, n, ck⟩) := by rw [hw0]; exact RowAt.new w _ _
  have b0 : Below w.heap.size w w0 := by rw [hw0]; exact bel_alloc (Below.refl _ _) _
  have z0 := b0.size
  have R0 := Lib.hid r0
  clear hw0 r0
  have qlt : w.heap.size < (w0).heap.size := R0.out.lt
  have qlu : w.heap.size < (w0).heap.size + 1 := Nat.lt_succ_of_lt R0.out.lt
  have q0 : (w0).cell? ⟨w.heap.size, 0, none⟩ = some (.int .u16 (ow : Int)) := R0.out.cells 0
  have qz0 : (w0).frozen? ⟨w.heap.size, 0, none⟩ = false := R0.out.frozen 0
  have q1 : (w0).cell? ⟨w.heap.size, 1, none⟩ = some (.int .u8 (v : Int)) := R0.out.cells 1
  have qz1 : (w0).frozen? ⟨w.heap.size, 1, none⟩ = false := R0.out.frozen 1
  have q2 : (w0).cell? ⟨w.heap.size, 2, none⟩ = some (.int .u32 (tx : Int)) := R0.out.cells 2
  have qz2 : (w0).frozen? ⟨w.heap.size, 2, none⟩ = false := R0.out.frozen 2
  have q3 : (w0).cell? ⟨w.heap.size, 3, none⟩ = some (.int .u16 (n : Int)) := R0.out.cells 3
  have qz3 : (w0).frozen? ⟨w.heap.size, 3, none⟩ = false := R0.out.frozen 3
  have q4 : (w0).cell? ⟨w.heap.size, 4, none⟩ = some (.int .u32 (ck : Int)) := R0.out.cells 4
  have qz4 : (w0).frozen? ⟨w.heap.size, 4, none⟩ = false := R0.out.frozen 4
  go_wp2_with fail
  with_reducible refine (k1.out w0).mono ?_
  rintro e1 w1 ⟨rfl, rfl⟩
  go_wp2_with fail
  with_reducible refine (k2.out w0).mono ?_
  rintro e2 w2 ⟨rfl, rfl⟩
  go_wp2
  go_ret
  refine ⟨bel_alloc b0 _, w0.heap.size, z0, rfl, ?_⟩
  rw [HWD.out]
  exact Sq.lits _ _ _ _ _ _ _ rfl rfl (by rw [World.size_alloc]; exact Nat.lt_succ_self _)
def rd (l : List Nat) : Cmd × Int := if l.length = 8 ∧ l.getD 7 0 = 0 ∧ l.getD 1 0 < 256 then (⟨l.getD 0 0, l.getD 1 0, 65536 * l.getD 2 0 + l.getD 3 0, l.getD 4 0, 65536 * l.getD 5 0 + l.getD 6 0⟩, 0) else (⟨0, 0, 0, 0, 0⟩, 2)
theorem eight (l : List Nat) (h : l.length = 8) : ∃ a0 a1 a2 a3 a4 a5 a6 a7 : Nat, l = [a0, a1, a2, a3, a4, a5, a6, a7] := by
  match l, h with
  | [a0, a1, a2, a3, a4, a5, a6, a7], _ => exact ⟨a0, a1, a2, a3, a4, a5, a6, a7, rfl⟩
theorem wide_as (h l x : Nat) (hh : h < 65536) (hl : l < 65536) (hx : 65536 * h + l = x) (w : World) :
    Calls Try.prog 58 #[.int .u16 (h : Int), .int .u16 (l : Int)] w fun e w' => e = .returned (.int .u32 (x : Int)) ∧ w' = w := by
  subst hx
  exact (wide_any h l w hh hl).mono fun e w' h => ⟨h.1, h.2.symm⟩
theorem size_cmdw : (Try.prog.info? 41).map (·.size) = some 5 := by kernel_rfl
theorem cmdL_onew (q : Cmd) : ∀ x ∈ cmdL q, x.oneCell' = true := by
  intro x hx
  simp only [cmdL, List.mem_cons, List.not_mem_nil, or_false] at hx
  rcases hx with rfl | rfl | rfl | rfl | rfl <;> rfl
set_option maxHeartbeats 1000000 in
theorem read_any (A : Option Addr) (l : List Nat) (n c : Nat) (w : World) (hn : l.length = n) (hs : Sq u16w w w.heap.size A l) (hu : ∀ x ∈ l, x < 65536) :
    Calls Try.prog 22 #[.slice A n c] w fun e w' => e = .returned (.tuple #[.agg (cmdL (rd l).1).toArray, .int .i64 (rd l).2]) ∧ Below w.heap.size w w' := by
  obtain ⟨R, hR⟩ : ∃ R, rd l = R := ⟨_, rfl⟩
  rw [hR]
  have HRD := Lib.hid hR
  clear hR
  go_enter Try.func22, Try.ntmps22
  go_upto_region 1 with fail
  obtain ⟨w0, hw0⟩ : ∃ w_q_, w_q_ = w.alloc (.cells #[.int .u16 0, .int .u8 0, .int .u32 0, .int .u16 0, .int .u32 0] 41) := ⟨_, rfl⟩
  rw [← hw0]
  have r0 : RowAt w0 w.heap.size 41 [.int .u16 0, .int .u8 0, .int .u32 0, .int .u16 0, .int .u32 0] := by rw [hw0]; exact RowAt.new w _ _
  have b0 : Below w.heap.size w w0 := by rw [hw0]; exact bel_alloc (Below.refl _ _) _
  have z0 : w0.heap.size = w.heap.size + 1 := by rw [hw0, World.size_alloc]
  have R0 := Lib.hid r0
  have B0 := Lib.hid b0
  replace hs := (hs.below b0).more b0.size
  clear hw0 r0 b0
  by_cases h8 : l.length = 8
  rotate_left
  · have u1 : ((n : Int) != 8) = true := bne_iff_ne.2 (by omega)
    obtain rfl : (⟨0, 0, 0, 0, 0⟩, 2) = R := by rw [← HRD.out]; exact (if_neg (fun q => h8 q.1)).symm
    clear HRD
    clear h8 hn hs
    go_wp2_with (refine wpList_store_var rfl 41 (.tmp 2) (.tmp 19) rfl w.heap.size _ (cmdL ⟨0, 0, 0, 0, 0⟩) 5 rfl rfl R0.out size_cmdw rfl rfl (cmdL_onew _) ?_; intro w_5 r_5 k_5)
    exact bodyPost_ret (results_cell_tmp rfl _ _ w.heap.size 41 _ (0, 0) _ rfl r_5 Try.underlying41 rfl (by kernel_rfl)) rfl ⟨rfl, k_5.to B0.out (Nat.le_refl _)⟩
  subst hn
  rw [h8]
  obtain ⟨a0, a1, a2, a3, a4, a5, a6, a7, rfl⟩ := eight l h8
  clear h8
  obtain ⟨b, o, _, rfl, hbl, _, _⟩ := hs.at_ (j := 0) (by simp)
  have cc : ∀ j x : Nat, ([a0, a1, a2, a3, a4, a5, a6, a7] : List Nat)[j]? = some x → w0.cell? ⟨b, o + j, none⟩ = some (.int .u16 (x : Int)) := fun (j x : Nat) hx => by
    obtain ⟨b', o', x', hA, _, hx', hc⟩ := hs.at_ (j := j) (List.getElem?_eq_some_iff.1 hx).1
    cases hA
    rw [hx] at hx'
    cases hx'
    exact hc
  have c0 := cc 0 _ rfl
  have c1 := cc 1 _ rfl
  have c2 := cc 2 _ rfl
  have c3 := cc 3 _ rfl
  have c4 := cc 4 _ rfl
  have c5 := cc 5 _ rfl
  have c6 := cc 6 _ rfl
  have c7 := cc 7 _ rfl
  simp only [Nat.add_zero] at c0
  have h0 := hu a0 (by simp)
  have h1 := hu a1 (by simp)
  have h2 := hu a2 (by simp)
  have h3 := hu a3 (by simp)
  have h4 := hu a4 (by simp)
  have h5 := hu a5 (by simp)
  have h6 := hu a6 (by simp)
  have h7 := hu a7 (by simp)
  clear cc hu hs
  by_cases t7 : a7 = 0
  rotate_left
  · have u7 : ((a7 : Int) != 0) = true := bne_iff_ne.2 (by omega)
    obtain rfl : (⟨0, 0, 0, 0, 0⟩, 2) = R := by rw [← HRD.out]; exact (if_neg (fun q => t7 q.2.1)).symm
    clear HRD
    clear t7
    go_wp2_with (refine wpList_store_var rfl 41 (.tmp 2) (.tmp 19) rfl w.heap.size _ (cmdL ⟨0, 0, 0, 0, 0⟩) 5 rfl rfl R0.out size_cmdw rfl rfl (cmdL_onew _) ?_; intro w_5 r_5 k_5)
    exact bodyPost_ret (results_cell_tmp rfl _ _ w.heap.size 41 _ (0, 0) _ rfl r_5 Try.underlying41 rfl (by kernel_rfl)) rfl ⟨rfl, k_5.to B0.out (Nat.le_refl _)⟩
  have u7 : ((a7 : Int) != 0) = false := by simp [t7]
  by_cases t1 : a1 < 256
  rotate_left
  · have u1 : decide ((256 : Int) ≤ (a1 : Int)) = true := decide_eq_true (by omega)
    obtain rfl : (⟨0, 0, 0, 0, 0⟩, 2) = R := by rw [← HRD.out]; exact (if_neg (fun q => t1 q.2.2)).symm
    clear HRD
    clear t7
    go_wp2_with (refine wpList_store_var rfl 41 (.tmp 2) (.tmp 19) rfl w.heap.size _ (cmdL ⟨0, 0, 0, 0, 0⟩) 5 rfl rfl R0.out size_cmdw rfl rfl (cmdL_onew _) ?_; intro w_5 r_5 k_5)
    exact bodyPost_ret (results_cell_tmp rfl _ _ w.heap.size 41 _ (0, 0) _ rfl r_5 Try.underlying41 rfl (by kernel_rfl)) rfl ⟨rfl, k_5.to B0.out (Nat.le_refl _)⟩
  have u1 : decide ((256 : Int) ≤ (a1 : Int)) = false := decide_eq_false (by omega)
  obtain ⟨x, hx⟩ : ∃ x, 65536 * a2 + a3 = x := ⟨_, rfl⟩
  obtain ⟨y, hy⟩ : ∃ y, 65536 * a5 + a6 = y := ⟨_, rfl⟩
  obtain rfl : (⟨a0, a1, x, a4, y⟩, 0) = R := by rw [← HRD.out, ← hx, ← hy]; exact (if_pos ⟨rfl, t7, t1⟩).symm
  have kx := Lib.hid (wide_as a2 a3 x h2 h3 hx)
  have ky := Lib.hid (wide_as a5 a6 y h5 h6 hy)
  have hw1 : IntKind.u8.wrap (a1 : Int) = (a1 : Int) := by
    have : IntKind.u8.wrap (a1 : Int) = (a1 : Int) % 256 := by simp [IntKind.wrap, IntKind.bits, IntKind.signed]
    omega
  clear t7 hx hy
  go_upto_region 3 with fail
  go_still_tail 25, (by kernel_rfl)
  still_call (kx.out _)
  repeat still_step
  still_call (ky.out _)
  repeat still_step
  refine wpStill_nil ?_
  change wpList _ _ _ _ _ w0.drew
  try rw [hw1]
  refine wpList_store_var rfl 41 (.tmp 2) (.tmp 44) rfl w.heap.size _ (cmdL ⟨a0, a1, x, a4, y⟩) 5 rfl rfl R0.out.drew size_cmdw rfl rfl (cmdL_onew _) ?_
  intro w_5 r_5 k_5
  go_wp2
  exact bodyPost_ret (results_cell_tmp rfl _ _ w.heap.size 41 _ (0, 0) _ rfl r_5 Try.underlying41 rfl (by kernel_rfl)) rfl ⟨rfl, k_5.to B0.out.drew (Nat.le_refl _)⟩
def st8 (g : Ag) : List Nat := [if Ls.free g.l = true then 0 else g.l.o, g.ph, g.tx / 65536, g.tx % 65536, g.la / 65536, g.la % 65536, (ssThere g.S).length, 0]
set_option maxHeartbeats 1000000 in
theorem status_any {A : Option Addr} {c base : Nat} {s : Stv} {g : Ag} (w : World) (h : AgIs A c s g w base) :
    Calls Try.prog 20 #[.agg (agC A c s g).toArray] w (AwdP (st8 g) w) := by
  obtain ⟨t1, ht1⟩ : ∃ x, g.tx / 65536 = x := ⟨_, rfl⟩
  obtain ⟨t2, ht2⟩ : ∃ x, g.tx % 65536 = x := ⟨_, rfl⟩
  obtain ⟨c1, hc1⟩ : ∃ x, g.la / 65536 = x := ⟨_, rfl⟩
  obtain ⟨c2, hc2⟩ : ∃ x, g.la % 65536 = x := ⟨_, rfl⟩
  obtain ⟨m, hm⟩ : ∃ m, (ssThere g.S).length = m := ⟨_, rfl⟩
  obtain ⟨fr, hfr⟩ : ∃ b, Ls.free g.l = b := ⟨_, rfl⟩
  obtain ⟨ow, how⟩ : ∃ x, (if fr = true then 0 else g.l.o) = x := ⟨_, rfl⟩
  have k1 := Lib.hid (parts_as g.tx t1 t2 h.tx ht1 ht2)
  have k2 := Lib.hid (parts_as g.la c1 c2 h.la hc1 hc2)
  have kf := Lib.hid (fun W => free_any g.l W h.fit)
  rw [hfr] at kf
  have kt := Lib.hid (fun W (hW : Below w.heap.size w W) => agthere_any W (h.st.to hW))
  rw [hm] at kt
  have HST : Hid (st8 g = [ow, g.ph, t1, t2, c1, c2, m, 0]) := Lib.hid (by rw [← ht1, ← ht2, ← hc1, ← hc2, ← how, ← hm, ← hfr]; rfl)
  have hm8 : m ≤ 8 := by have := ssThere_length g.S; rw [h.S8] at this; omega
  have H25 := h.C25
  have HZ : Hid ((Try.prog.info? 33).map (·.size) = some s.C.length) := Lib.hid (by rw [H25]; exact size_25)
  have hwp : Hid (IntKind.u16.wrap (g.ph : Int) = (g.ph : Int)) := Lib.hid (by have := h.ph; rw [wrap_u16]; omega)
  have hwm : Hid (IntKind.u16.wrap (m : Int) = (m : Int)) := Lib.hid (by rw [wrap_u16]; omega)
  clear h ht1 ht2 hc1 hc2 hm hfr
  go_enter Try.func20, Try.ntmps20
  go_upto_region 1 with fail
  obtain ⟨w0, hw0⟩ : ∃ w_q_, w_q_ = w.alloc (.cells (agC A c s g).toArray 35) := ⟨_, rfl⟩
  rw [← hw0]
  have r0 : RowAt w0 w.heap.size 35 (agC A c s g) := by rw [hw0]; exact RowAt.new w _ _
  have b0 : Below w.heap.size w w0 := by rw [hw0]; exact bel_alloc (Below.refl _ _) _
  have R0 := Lib.hid r0
  have B0 := Lib.hid b0
  clear hw0 r0 b0
  have alt : w.heap.size < (w0).heap.size := R0.out.lt
  have alu : w.heap.size < (w0).heap.size + 1 := Nat.lt_succ_of_lt R0.out.lt
  have a0 : (w0).cell? ⟨w.heap.size, 0, none⟩ = some (.slice A g.bank.length c) := R0.out.cells 0
  have az0 : (w0).frozen? ⟨w.heap.size, 0, none⟩ = false := R0.out.frozen 0
  have a1 : (w0).cell? ⟨w.heap.size, 1, none⟩ = some (.int .u16 (g.l.o : Int)) := R0.out.cells 1
  have az1 : (w0).frozen? ⟨w.heap.size, 1, none⟩ = false := R0.out.frozen 1
  have a2 : (w0).cell? ⟨w.heap.size, 2, none⟩ = some (.int .i64 g.l.l) := R0.out.cells 2
  have az2 : (w0).frozen? ⟨w.heap.size, 2, none⟩ = false := R0.out.frozen 2
  go_wp2_with fail
  with_reducible refine (kf.out _).mono ?_
  rintro e1 w1 ⟨rfl, hb1⟩
  replace R0 := Lib.hid (R0.out.to hb1)
  replace B0 := Lib.hid (B0.out.trans (hb1.mono B0.out.size))
  clear hb1 kf a0 a1 a2 az0 az1 az2 alt alu
  have a2 : w1.cell? ⟨w.heap.size, 3, none⟩ = some (.int .u8 (g.ph : Int)) := R0.out.cells 3
  have a3 : w1.cell? ⟨w.heap.size, 4, none⟩ = some (.int .u32 (g.tx : Int)) := R0.out.cells 4
  have a4 : w1.cell? ⟨w.heap.size, 5, none⟩ = some (.int .u32 (g.la : Int)) := R0.out.cells 5
  have alt := R0.out.lt
  cases fr
  · obtain rfl : g.l.o = ow := how
    go_wp2_with fail
    with_reducible refine (k1.out w1).mono ?_
    rintro e2 w2 ⟨rfl, rfl⟩
    go_wp2_with fail
    with_reducible refine (k2.out w1).mono ?_
    rintro e3 w3 ⟨rfl, rfl⟩
    go_upto_region 6 with fail
    refine wp_region_held_drew (S := (fun w' => RowAt w' w.heap.size 35 (agC A c s g) ∧ w'.cell? ⟨w.heap.size, 3, none⟩ = some (.int .u8 (g.ph : Int)))) (by kernel_rfl) ?_ (fun hHeld => ?_)
    · exact ⟨R0.out, a2⟩
    refine takeD (i := 0) (oi := _) (v := ?vv90) (d := some 26) rfl (by kernel_rfl) (by kernel_rfl) (by kernel_rfl) (by kernel_rfl) (fun _ _ _ h => h) (Or.inl ⟨by kernel_rfl, ?_⟩) (by assumption) ?_
    rotate_left 1
    · intro W_ hSw; (try dsimp only at hSw); go_simp; (first | done | with_reducible rfl)
    try simp only [Act.put, List.setIfInBounds_toArray, List.set_cons_zero, List.set_cons_succ]
    refine takeD (i := 1) (oi := _) (v := ?vv91) (d := some 27) rfl (by kernel_rfl) (by kernel_rfl) (by kernel_rfl) (by kernel_rfl) (fun _ _ _ h => h) (Or.inl ⟨by kernel_rfl, ?_⟩) (by assumption) ?_
    rotate_left 1
    · intro W_ hSw; (try dsimp only at hSw); go_simp; (first | done | with_reducible rfl)
    try simp only [Act.put, List.setIfInBounds_toArray, List.set_cons_zero, List.set_cons_succ]
    refine takeD (i := 2) (oi := _) (v := ?vv92) (d := some 28) rfl (by kernel_rfl) (by kernel_rfl) (by kernel_rfl) (by kernel_rfl) (fun _ _ _ h => h) (Or.inl ⟨by kernel_rfl, ?_⟩) (by assumption) ?_
    rotate_left 1
    · intro W_ hSw; (try dsimp only at hSw); go_simp; (first | done | with_reducible rfl)
    try simp only [Act.put, List.setIfInBounds_toArray, List.set_cons_zero, List.set_cons_succ]
    refine takeD (i := 3) (oi := _) (v := ?vv93) (d := some 29) rfl (by kernel_rfl) (by kernel_rfl) (by kernel_rfl) (by kernel_rfl) (fun _ _ _ h => h) (Or.inl ⟨by kernel_rfl, ?_⟩) (by assumption) ?_
    rotate_left 1
    · intro W_ hSw; (try dsimp only at hSw); go_simp; (first | done | with_reducible rfl)
    try simp only [Act.put, List.setIfInBounds_toArray, List.set_cons_zero, List.set_cons_succ]
    refine takeD (i := 4) (oi := _) (v := ?vv94) (d := some 30) rfl (by kernel_rfl) (by kernel_rfl) (by kernel_rfl) (by kernel_rfl) (fun _ _ _ h => h) (Or.inl ⟨by kernel_rfl, ?_⟩) (by assumption) ?_
    rotate_left 1
    · intro W_ hSw; (try dsimp only at hSw); go_simp; (first | done | with_reducible rfl)
    try simp only [Act.put, List.setIfInBounds_toArray, List.set_cons_zero, List.set_cons_succ]
    refine takeD (i := 5) (oi := _) (v := ?vv95) (d := some 31) rfl (by kernel_rfl) (by kernel_rfl) (by kernel_rfl) (by kernel_rfl) (fun _ _ _ h => h) (Or.inl ⟨by kernel_rfl, ?_⟩) (by assumption) ?_
    rotate_left 1
    · intro W_ hSw; (try dsimp only at hSw); go_simp; (first | done | with_reducible rfl)
    try simp only [Act.put, List.setIfInBounds_toArray, List.set_cons_zero, List.set_cons_succ]
    refine takeD (i := 6) (oi := _) (v := ?vv96) (d := some 32) rfl (by kernel_rfl) (by kernel_rfl) (by kernel_rfl) (by kernel_rfl) (fun _ _ _ h => h) (Or.inl ⟨by kernel_rfl, ?_⟩) (by assumption) ?_
    rotate_left 1
    · intro W_ hSw; (try dsimp only at hSw); go_simp; (first | done | with_reducible rfl)
    try simp only [Act.put, List.setIfInBounds_toArray, List.set_cons_zero, List.set_cons_succ]
    refine takeD (i := 7) (oi := _) (v := ?vv97) (d := some 33) rfl (by kernel_rfl) (by kernel_rfl) (by kernel_rfl) (by kernel_rfl) (fun _ _ _ h => h) (Or.inl ⟨by kernel_rfl, ?_⟩) (by assumption) ?_
    rotate_left 1
    · intro W_ hSw; (try dsimp only at hSw); go_simp; (first | done | with_reducible rfl)
    try simp only [Act.put, List.setIfInBounds_toArray, List.set_cons_zero, List.set_cons_succ]
    refine takeD (i := 8) (oi := _) (v := ?vv98) (d := some 34) rfl (by kernel_rfl) (by kernel_rfl) (by kernel_rfl) (by kernel_rfl) (fun _ _ _ h => h) (Or.inl ⟨by kernel_rfl, ?_⟩) (by assumption) ?_
    rotate_left 1
    · intro W_ hSw; (try dsimp only at hSw); go_simp; (first | done | with_reducible rfl)
    try simp only [Act.put, List.setIfInBounds_toArray, List.set_cons_zero, List.set_cons_succ]
    refine takeD (i := 9) (oi := _) (v := _) (d := some 35) rfl (by kernel_rfl) (by kernel_rfl) (by kernel_rfl) (by kernel_rfl) (fun _ _ _ h => h) (yieldsIf_load_mid (by kernel_rfl) 33 (.tmp 34) (by kernel_rfl) w.heap.size 6 (by kernel_rfl) s.C _ (fun W h => h.1.stage H25) Try.underlying33 rfl HZ.out) (by assumption) ?_
    try simp only [Act.put, List.setIfInBounds_toArray, List.set_cons_zero, List.set_cons_succ]
    refine wpAnyH_ready (rs := [10]) (by kernel_rfl) (by simp) ?_
    refine AllReadyH.cons (o := _) rfl (fun K hK => ?_) AllReadyH.nil
    go_simp
    (go_at_call 44; (with_reducible refine (kt.out _ B0.out.drew).mono ?_); rintro e4 w4 ⟨rfl, hb4⟩; have hb4a : Below w.heap.size w w4 := B0.out.drew.trans (hb4.mono B0.out.drew.size))
    go_wp2_with fail
    refine hK.out _ _ ?_ (fun hHeld => ?_)
    · exact ⟨R0.out.drew.to hb4, (R0.out.drew.to hb4).cells 3⟩
    clear hK K
    try simp only [Act.put, List.setIfInBounds_toArray, List.set_cons_zero, List.set_cons_succ]
    have RA4 := R0.out.drew.to hb4
    refine takeD (i := 11) (oi := _) (v := ?vv99) (d := some 37) rfl (by kernel_rfl) (by kernel_rfl) (by kernel_rfl) (by kernel_rfl) (fun _ _ _ h => h) (Or.inl ⟨by kernel_rfl, ?_⟩) (by assumption) ?_
    rotate_left 1
    · intro W_ hSw; (try dsimp only at hSw); go_simp; (first | done | with_reducible rfl)
    try simp only [Act.put, List.setIfInBounds_toArray, List.set_cons_zero, List.set_cons_succ]
    refine wpAnyH_ready (rs := [12]) (by kernel_rfl) (by simp) ?_
    refine AllReadyH.cons (o := _) rfl (fun K hK => ?_) AllReadyH.nil
    go_simp
    refine hK.out _ _ ?_ (fun hHeld => ?_)
    · exact ⟨RA4.alloc _, (RA4.alloc _).cells 3⟩
    clear hK K
    try simp only [Act.put]
    try simp only [List.setIfInBounds_toArray]
    try simp only [List.set_cons_succ]
    try simp only [List.set_cons_zero]
    refine takeD (i := 13) (oi := _) (v := ?vv100) (d := some 2) rfl (by kernel_rfl) (by kernel_rfl) (by kernel_rfl) (by kernel_rfl) (fun _ _ _ h => h) (Or.inl ⟨by kernel_rfl, ?_⟩) (by assumption) ?_
    rotate_left 1
    · intro W_ hSw; (try dsimp only at hSw); go_simp; (first | done | with_reducible rfl)
    try simp only [Act.put, List.setIfInBounds_toArray, List.set_cons_zero, List.set_cons_succ]
    refine wpAnyH_done (by kernel_rfl) ?_ _
    go_wp2
    go_ret
    refine ⟨bel_alloc hb4a _, w4.heap.size, hb4a.size, rfl, ?_⟩
    rw [HST.out, hwp.out, hwm.out]
    exact Sq.lits _ _ _ _ _ _ _ rfl rfl (by rw [World.size_alloc]; exact Nat.lt_succ_self _)
  · obtain rfl : 0 = ow := how
    go_wp2_with fail
    with_reducible refine (k1.out w1).mono ?_
    rintro e2 w2 ⟨rfl, rfl⟩
    go_wp2_with fail
    with_reducible refine (k2.out w1).mono ?_
    rintro e3 w3 ⟨rfl, rfl⟩
    go_upto_region 6 with fail
    refine wp_region_held_drew (S := (fun w' => RowAt w' w.heap.size 35 (agC A c s g) ∧ w'.cell? ⟨w.heap.size, 3, none⟩ = some (.int .u8 (g.ph : Int)))) (by kernel_rfl) ?_ (fun hHeld => ?_)
    · exact ⟨R0.out, a2⟩
    refine takeD (i := 0) (oi := _) (v := ?vv101) (d := some 26) rfl (by kernel_rfl) (by kernel_rfl) (by kernel_rfl) (by kernel_rfl) (fun _ _ _ h => h) (Or.inl ⟨by kernel_rfl, ?_⟩) (by assumption) ?_
    rotate_left 1
    · intro W_ hSw; (try dsimp only at hSw); go_simp; (first | done | with_reducible rfl)
    try simp only [Act.put, List.setIfInBounds_toArray, List.set_cons_zero, List.set_cons_succ]
    refine takeD (i := 1) (oi := _) (v := ?vv102) (d := some 27) rfl (by kernel_rfl) (by kernel_rfl) (by kernel_rfl) (by kernel_rfl) (fun _ _ _ h => h) (Or.inl ⟨by kernel_rfl, ?_⟩) (by assumption) ?_
    rotate_left 1
    · intro W_ hSw; (try dsimp only at hSw); go_simp; (first | done | with_reducible rfl)
    try simp only [Act.put, List.setIfInBounds_toArray, List.set_cons_zero, List.set_cons_succ]
    refine takeD (i := 2) (oi := _) (v := ?vv103) (d := some 28) rfl (by kernel_rfl) (by kernel_rfl) (by kernel_rfl) (by kernel_rfl) (fun _ _ _ h => h) (Or.inl ⟨by kernel_rfl, ?_⟩) (by assumption) ?_
    rotate_left 1
    · intro W_ hSw; (try dsimp only at hSw); go_simp; (first | done | with_reducible rfl)
    try simp only [Act.put, List.setIfInBounds_toArray, List.set_cons_zero, List.set_cons_succ]
    refine takeD (i := 3) (oi := _) (v := ?vv104) (d := some 29) rfl (by kernel_rfl) (by kernel_rfl) (by kernel_rfl) (by kernel_rfl) (fun _ _ _ h => h) (Or.inl ⟨by kernel_rfl, ?_⟩) (by assumption) ?_
    rotate_left 1
    · intro W_ hSw; (try dsimp only at hSw); go_simp; (first | done | with_reducible rfl)
    try simp only [Act.put, List.setIfInBounds_toArray, List.set_cons_zero, List.set_cons_succ]
    refine takeD (i := 4) (oi := _) (v := ?vv105) (d := some 30) rfl (by kernel_rfl) (by kernel_rfl) (by kernel_rfl) (by kernel_rfl) (fun _ _ _ h => h) (Or.inl ⟨by kernel_rfl, ?_⟩) (by assumption) ?_
    rotate_left 1
    · intro W_ hSw; (try dsimp only at hSw); go_simp; (first | done | with_reducible rfl)
    try simp only [Act.put, List.setIfInBounds_toArray, List.set_cons_zero, List.set_cons_succ]
    refine takeD (i := 5) (oi := _) (v := ?vv106) (d := some 31) rfl (by kernel_rfl) (by kernel_rfl) (by kernel_rfl) (by kernel_rfl) (fun _ _ _ h => h) (Or.inl ⟨by kernel_rfl, ?_⟩) (by assumption) ?_
    rotate_left 1
    · intro W_ hSw; (try dsimp only at hSw); go_simp; (first | done | with_reducible rfl)
    try simp only [Act.put, List.setIfInBounds_toArray, List.set_cons_zero, List.set_cons_succ]
    refine takeD (i := 6) (oi := _) (v := ?vv107) (d := some 32) rfl (by kernel_rfl) (by kernel_rfl) (by kernel_rfl) (by kernel_rfl) (fun _ _ _ h => h) (Or.inl ⟨by kernel_rfl, ?_⟩) (by assumption) ?_
    rotate_left 1
    · intro W_ hSw; (try dsimp only at hSw); go_simp; (first | done | with_reducible rfl)
    try simp only [Act.put, List.setIfInBounds_toArray, List.set_cons_zero, List.set_cons_succ]
    refine takeD (i := 7) (oi := _) (v := ?vv108) (d := some 33) rfl (by kernel_rfl) (by kernel_rfl) (by kernel_rfl) (by kernel_rfl) (fun _ _ _ h => h) (Or.inl ⟨by kernel_rfl, ?_⟩) (by assumption) ?_
    rotate_left 1
    · intro W_ hSw; (try dsimp only at hSw); go_simp; (first | done | with_reducible rfl)
    try simp only [Act.put, List.setIfInBounds_toArray, List.set_cons_zero, List.set_cons_succ]
    refine takeD (i := 8) (oi := _) (v := ?vv109) (d := some 34) rfl (by kernel_rfl) (by kernel_rfl) (by kernel_rfl) (by kernel_rfl) (fun _ _ _ h => h) (Or.inl ⟨by kernel_rfl, ?_⟩) (by assumption) ?_
    rotate_left 1
    · intro W_ hSw; (try dsimp only at hSw); go_simp; (first | done | with_reducible rfl)
    try simp only [Act.put, List.setIfInBounds_toArray, List.set_cons_zero, List.set_cons_succ]
    refine takeD (i := 9) (oi := _) (v := _) (d := some 35) rfl (by kernel_rfl) (by kernel_rfl) (by kernel_rfl) (by kernel_rfl) (fun _ _ _ h => h) (yieldsIf_load_mid (by kernel_rfl) 33 (.tmp 34) (by kernel_rfl) w.heap.size 6 (by kernel_rfl) s.C _ (fun W h => h.1.stage H25) Try.underlying33 rfl HZ.out) (by assumption) ?_
    try simp only [Act.put, List.setIfInBounds_toArray, List.set_cons_zero, List.set_cons_succ]
    refine wpAnyH_ready (rs := [10]) (by kernel_rfl) (by simp) ?_
    refine AllReadyH.cons (o := _) rfl (fun K hK => ?_) AllReadyH.nil
    go_simp
    (go_at_call 44; (with_reducible refine (kt.out _ B0.out.drew).mono ?_); rintro e4 w4 ⟨rfl, hb4⟩; have hb4a : Below w.heap.size w w4 := B0.out.drew.trans (hb4.mono B0.out.drew.size))
    go_wp2_with fail
    refine hK.out _ _ ?_ (fun hHeld => ?_)
    · exact ⟨R0.out.drew.to hb4, (R0.out.drew.to hb4).cells 3⟩
    clear hK K
    try simp only [Act.put, List.setIfInBounds_toArray, List.set_cons_zero, List.set_cons_succ]
    have RA4 := R0.out.drew.to hb4
    refine takeD (i := 11) (oi := _) (v := ?vv110) (d := some 37) rfl (by kernel_rfl) (by kernel_rfl) (by kernel_rfl) (by kernel_rfl) (fun _ _ _ h => h) (Or.inl ⟨by kernel_rfl, ?_⟩) (by assumption) ?_
    rotate_left 1
    · intro W_ hSw; (try dsimp only at hSw); go_simp; (first | done | with_reducible rfl)
    try simp only [Act.put, List.setIfInBounds_toArray, List.set_cons_zero, List.set_cons_succ]
    refine wpAnyH_ready (rs := [12]) (by kernel_rfl) (by simp) ?_
    refine AllReadyH.cons (o := _) rfl (fun K hK => ?_) AllReadyH.nil
    go_simp
    refine hK.out _ _ ?_ (fun hHeld => ?_)
    · exact ⟨RA4.alloc _, (RA4.alloc _).cells 3⟩
    clear hK K
    try simp only [Act.put]
    try simp only [List.setIfInBounds_toArray]
    try simp only [List.set_cons_succ]
    try simp only [List.set_cons_zero]
    refine takeD (i := 13) (oi := _) (v := ?vv111) (d := some 2) rfl (by kernel_rfl) (by kernel_rfl) (by kernel_rfl) (by kernel_rfl) (fun _ _ _ h => h) (Or.inl ⟨by kernel_rfl, ?_⟩) (by assumption) ?_
    rotate_left 1
    · intro W_ hSw; (try dsimp only at hSw); go_simp; (first | done | with_reducible rfl)
    try simp only [Act.put, List.setIfInBounds_toArray, List.set_cons_zero, List.set_cons_succ]
    refine wpAnyH_done (by kernel_rfl) ?_ _
    go_wp2
    go_ret
    refine ⟨bel_alloc hb4a _, w4.heap.size, hb4a.size, rfl, ?_⟩
    rw [HST.out, hwp.out, hwm.out]
    exact Sq.lits _ _ _ _ _ _ _ rfl rfl (by rw [World.size_alloc]; exact Nat.lt_succ_self _)
end Go.Proofs.Ytajbghjjpebndaa
