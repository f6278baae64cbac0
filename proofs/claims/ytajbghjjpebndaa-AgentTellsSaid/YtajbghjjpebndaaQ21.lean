/- The walks of agent's small functions: freed, others, taken, in, what is refused. The walks of agent's functions: taken, prepare, abort, noPrepare. Whole variables in a region that draws its order. -/
import Derived.Test.YtajbghjjpebndaaQ19
import Derived.Test.YtajbghjjpebndaaQ20
import Derived.Test.YtajbghjjpebndaaQ12
namespace Go.Proofs.Ytajbghjjpebndaa
set_option maxRecDepth 100000
open Go.RowKit
set_option linter.unusedVariables false
set_option linter.unusedSimpArgs false
attribute [local go_sem] Later.cell Later.frozen setCell_twice
abbrev cmdL (c : Cmd) : List Value := [.int .u16 (c.ow : Int), .int .u8 (c.v : Int), .int .u32 (c.tx : Int), .int .u16 (c.n : Int), .int .u32 (c.ck : Int)]
structure Cmd.Fit (c : Cmd) : Prop where
  ow : c.ow < 65536
  v : c.v < 256
  tx : c.tx < 4294967296
  n : c.n < 65536
  ck : c.ck < 4294967296
theorem new2 (w : World) (o : Obj) (T : TypeId) (C : List Value) : RowAt ((w.alloc o).alloc (.cells C.toArray T)) (w.heap.size + 1) T C := by
  have := RowAt.new (w.alloc o) T C
  rwa [World.size_alloc] at this
theorem new3 (w : World) (o o' : Obj) (T : TypeId) (C : List Value) : RowAt (((w.alloc o).alloc o').alloc (.cells C.toArray T)) (w.heap.size + 2) T C := by
  have := RowAt.new ((w.alloc o).alloc o') T C
  rwa [World.size_alloc, World.size_alloc] at this
/-- variables at a function's beginning -/
theorem in_a (w : World) (C : List Value) : RowAt (w.alloc (.cells C.toArray 35)) w.heap.size 35 C ∧ Below w.heap.size w (w.alloc (.cells C.toArray 35)) ∧ w.heap.size + 1 ≤ (w.alloc (.cells C.toArray 35)).heap.size :=
  ⟨RowAt.new w _ _, bel_alloc (Below.refl _ _) _, by rw [World.size_alloc]; exact Nat.le_refl _⟩
theorem in_ar (w : World) (C : List Value) : RowAt ((w.alloc (.cells C.toArray 35)).alloc (.cells z32 35)) w.heap.size 35 C ∧ RowAt ((w.alloc (.cells C.toArray 35)).alloc (.cells z32 35)) (w.heap.size + 1) 35 (agC none 0 Stv.zero Ag0) ∧ Below w.heap.size w ((w.alloc (.cells C.toArray 35)).alloc (.cells z32 35)) ∧ w.heap.size + 2 ≤ ((w.alloc (.cells C.toArray 35)).alloc (.cells z32 35)).heap.size :=
  ⟨(RowAt.new w _ _).alloc _, by have h := new2 w (.cells C.toArray 35) 35 (agC none 0 Stv.zero Ag0); rw [z32_eq] at h; exact h, bel_alloc (bel_alloc (Below.refl _ _) _) _, by rw [World.size_alloc, World.size_alloc]; exact Nat.le_refl _⟩
theorem in_ac (w : World) (C D : List Value) : RowAt ((w.alloc (.cells C.toArray 35)).alloc (.cells D.toArray 41)) w.heap.size 35 C ∧ RowAt ((w.alloc (.cells C.toArray 35)).alloc (.cells D.toArray 41)) (w.heap.size + 1) 41 D ∧ Below w.heap.size w ((w.alloc (.cells C.toArray 35)).alloc (.cells D.toArray 41)) ∧ w.heap.size + 2 ≤ ((w.alloc (.cells C.toArray 35)).alloc (.cells D.toArray 41)).heap.size :=
  ⟨(RowAt.new w _ _).alloc _, new2 _ _ _ _, bel_alloc (bel_alloc (Below.refl _ _) _) _, by rw [World.size_alloc, World.size_alloc]; exact Nat.le_refl _⟩
theorem in_acr (w : World) (C D : List Value) : RowAt (((w.alloc (.cells C.toArray 35)).alloc (.cells D.toArray 41)).alloc (.cells z32 35)) w.heap.size 35 C ∧ RowAt (((w.alloc (.cells C.toArray 35)).alloc (.cells D.toArray 41)).alloc (.cells z32 35)) (w.heap.size + 1) 41 D ∧ RowAt (((w.alloc (.cells C.toArray 35)).alloc (.cells D.toArray 41)).alloc (.cells z32 35)) (w.heap.size + 2) 35 (agC none 0 Stv.zero Ag0) ∧ Below w.heap.size w (((w.alloc (.cells C.toArray 35)).alloc (.cells D.toArray 41)).alloc (.cells z32 35)) ∧ w.heap.size + 3 ≤ (((w.alloc (.cells C.toArray 35)).alloc (.cells D.toArray 41)).alloc (.cells z32 35)).heap.size :=
  ⟨(in_ac w C D).1.alloc _, (in_ac w C D).2.1.alloc _, by have h := new3 w (.cells C.toArray 35) (.cells D.toArray 41) 35 (agC none 0 Stv.zero Ag0); rw [z32_eq] at h; exact h, bel_alloc (in_ac w C D).2.2.1 _, by rw [World.size_alloc, World.size_alloc, World.size_alloc]; exact Nat.le_refl _⟩
theorem Only.trans {g : Nat} {w w' w'' : World} (h : Only g w w') (k : Only g w' w'') : Only g w w'' :=
  ⟨k.os.trans h.os, k.tape.trans h.tape, k.output.trans h.output, k.size.trans h.size, fun b hb => (k.block b hb).trans (h.block b hb)⟩
section
variable {A : Option Addr} {c base : Nat} {s : Stv} {g : Ag}
theorem agC_freed : ((((agC A c s g).set 3 (.int .u8 0)).set 1 (.int .u16 0)).set 2 (.int .i64 0)).set 4 (.int .u32 0) = agP A c g.freed ++ (s.C ++ [.int .i64 g.tk]) := rfl
set_option maxHeartbeats 400000 in
theorem agfreed_any (w : World) (h : AgIs A c s g w base) :
    Calls Try.prog 69 #[.agg (agC A c s g).toArray] w fun e w' => e = .returned (.agg (agC A c Stv.zero g.freed).toArray) ∧ Below w.heap.size w w' := by
  have HC : Hid ((agC A c Stv.zero g.freed).length = 32) := Lib.hid h.freed.C32
  have H25 := Lib.hid h.C25
  clear h
  go_enter Try.func69, Try.ntmps69
  go_upto_region 1 with fail
  obtain ⟨w0, hw0⟩ : ∃ w_q_, w_q_ = (w.alloc (.cells (agC A c s g).toArray 35)).alloc (.cells z32 35) := ⟨_, rfl⟩
  rw [← hw0]
  have hin := in_ar w (agC A c s g)
  rw [← hw0] at hin
  obtain ⟨r1, r2, b0, z0⟩ := hin
  have R1 := Lib.hid r1
  have R2 := Lib.hid r2
  clear hw0 r1 r2
  have alt : w.heap.size < (w0).heap.size := R1.out.lt
  have alu : w.heap.size < (w0).heap.size + 1 := Nat.lt_succ_of_lt R1.out.lt
  have a0 : (w0).cell? ⟨w.heap.size, 0, none⟩ = some (.slice A g.bank.length c) := R1.out.cells 0
  have az0 : (w0).frozen? ⟨w.heap.size, 0, none⟩ = false := R1.out.frozen 0
  have a1 : (w0).cell? ⟨w.heap.size, 1, none⟩ = some (.int .u16 (g.l.o : Int)) := R1.out.cells 1
  have az1 : (w0).frozen? ⟨w.heap.size, 1, none⟩ = false := R1.out.frozen 1
  have a2 : (w0).cell? ⟨w.heap.size, 2, none⟩ = some (.int .i64 g.l.l) := R1.out.cells 2
  have az2 : (w0).frozen? ⟨w.heap.size, 2, none⟩ = false := R1.out.frozen 2
  have a3 : (w0).cell? ⟨w.heap.size, 3, none⟩ = some (.int .u8 (g.ph : Int)) := R1.out.cells 3
  have az3 : (w0).frozen? ⟨w.heap.size, 3, none⟩ = false := R1.out.frozen 3
  have a4 : (w0).cell? ⟨w.heap.size, 4, none⟩ = some (.int .u32 (g.tx : Int)) := R1.out.cells 4
  have az4 : (w0).frozen? ⟨w.heap.size, 4, none⟩ = false := R1.out.frozen 4
  have a5 : (w0).cell? ⟨w.heap.size, 5, none⟩ = some (.int .u32 (g.la : Int)) := R1.out.cells 5
  have az5 : (w0).frozen? ⟨w.heap.size, 5, none⟩ = false := R1.out.frozen 5
  have RF : Hid (∀ W, W = (((w0.setCell ⟨w.heap.size, 3, none⟩ (.int .u8 0)).setCell ⟨w.heap.size, 1, none⟩ (.int .u16 0)).setCell ⟨w.heap.size, 2, none⟩ (.int .i64 0)).setCell ⟨w.heap.size, 4, none⟩ (.int .u32 0) → RowAt W w.heap.size 35 (agP A c g.freed ++ (s.C ++ [.int .i64 g.tk])) ∧ Only w.heap.size w0 W) := Lib.hid (fun W h => by
    subst h
    exact ⟨by rw [← agC_freed]; exact (((R1.out.set 3 _).set 1 _).set 2 _).set 4 _, ((((Only.refl _ _).set _).set _).set _).set _⟩)
  clear R1
  go_upto_region 2 with (first | (refine wpList_store_part rfl 33 (.tmp 8) (.tmp 4) rfl w.heap.size 6 35 (agP A c g.freed) s.C [.int .i64 g.tk] Stv.zero.C 25 rfl rfl (RF.out _ (by with_reducible rfl)).1 size_25 rfl H25.out rfl (Stv.C_one _) ?_; intro w_1 r_1 k_1; have R_1 := Lib.hid r_1; have K_1 := Lib.hid (Only.trans (RF.out _ (by with_reducible rfl)).2 k_1); clear r_1 k_1))
  replace R_1 := (show Hid (RowAt w_1 w.heap.size 35 (agC A c Stv.zero g.freed)) from R_1)
  replace R2 := Lib.hid (R2.out.only K_1.out (by omega))
  go_wp2_with (first | (refine wpList_load_var rfl 35 (.tmp 1) rfl (w.heap.size) rfl _ _ 32 R_1.out Try.underlying35 rfl size_32 HC.out ?_) | (refine wpList_store_var rfl 35 (.tmp 2) (.tmp 9) rfl (w.heap.size + 1) _ (agC A c Stv.zero g.freed) 32 rfl rfl R2.out size_32 (by first | rfl | exact HCO.out) HC.out (agC_one _) ?_; intro w_2 r_2 k_2; have R_2 := Lib.hid r_2; have K_2 := Lib.hid k_2; clear r_2 k_2))
  exact bodyPost_ret (results_cell_row rfl _ _ (w.heap.size + 1) 35 _ (0, 0) _ rfl R_2.out Try.underlying35 rfl (by rw [size_32, List.size_toArray, HC.out])) rfl ⟨rfl, (K_2.out).to (K_1.out.to b0 (Nat.le_refl _)) (by omega)⟩
set_option maxHeartbeats 400000 in
theorem agothers_any (w : World) (h : AgIs A c s g w base) (ow : Nat) (r : Bool) (hr : decide (Ls.free g.l = false ∧ g.l.o ≠ ow) = r) :
    Calls Try.prog 67 #[.agg (agC A c s g).toArray, .int .u16 (ow : Int)] w fun e w' => e = .returned (.bool r) ∧ Below w.heap.size w w' := by
  obtain ⟨b, hb⟩ : ∃ b, Ls.free g.l = b := ⟨_, rfl⟩
  have kf := Lib.hid (fun W => free_eq g.l b W h.fit hb)
  rw [hb] at hr
  clear hb h
  go_enter Try.func67, Try.ntmps67
  go_upto_region 1 with fail
  obtain ⟨w0, hw0⟩ : ∃ w_q_, w_q_ = w.alloc (.cells (agC A c s g).toArray 35) := ⟨_, rfl⟩
  rw [← hw0]
  have hin := in_a w (agC A c s g)
  rw [← hw0] at hin
  obtain ⟨r1, b0, z0⟩ := hin
  have R1 := Lib.hid r1
  clear hw0 r1
  have alt : w.heap.size < (w0).heap.size := R1.out.lt
  have alu : w.heap.size < (w0).heap.size + 1 := Nat.lt_succ_of_lt R1.out.lt
  have a0 : (w0).cell? ⟨w.heap.size, 0, none⟩ = some (.slice A g.bank.length c) := R1.out.cells 0
  have az0 : (w0).frozen? ⟨w.heap.size, 0, none⟩ = false := R1.out.frozen 0
  have a1 : (w0).cell? ⟨w.heap.size, 1, none⟩ = some (.int .u16 (g.l.o : Int)) := R1.out.cells 1
  have az1 : (w0).frozen? ⟨w.heap.size, 1, none⟩ = false := R1.out.frozen 1
  have a2 : (w0).cell? ⟨w.heap.size, 2, none⟩ = some (.int .i64 g.l.l) := R1.out.cells 2
  have az2 : (w0).frozen? ⟨w.heap.size, 2, none⟩ = false := R1.out.frozen 2
  go_wp2_with fail
  with_reducible refine (kf.out _).mono ?_
  rintro e1 w1 ⟨rfl, hb1⟩
  replace R1 := Lib.hid (R1.out.to hb1)
  have B1 := Lib.hid (b0.trans (hb1.mono b0.size))
  have hz1 := hb1.size
  clear hb1 a0 a1 a2 az0 az1 az2
  have dlt : w.heap.size < (w1).heap.size := R1.out.lt
  have dlu : w.heap.size < (w1).heap.size + 1 := Nat.lt_succ_of_lt R1.out.lt
  have d0 : (w1).cell? ⟨w.heap.size, 0, none⟩ = some (.slice A g.bank.length c) := R1.out.cells 0
  have dz0 : (w1).frozen? ⟨w.heap.size, 0, none⟩ = false := R1.out.frozen 0
  have d1 : (w1).cell? ⟨w.heap.size, 1, none⟩ = some (.int .u16 (g.l.o : Int)) := R1.out.cells 1
  have dz1 : (w1).frozen? ⟨w.heap.size, 1, none⟩ = false := R1.out.frozen 1
  have d2 : (w1).cell? ⟨w.heap.size, 2, none⟩ = some (.int .i64 g.l.l) := R1.out.cells 2
  have dz2 : (w1).frozen? ⟨w.heap.size, 2, none⟩ = false := R1.out.frozen 2
  cases b
  · by_cases ho : g.l.o = ow
    · have g1 : ((g.l.o : Int) != (ow : Int)) = false := by simp [ho]
      obtain rfl : r = false := by rw [← hr]; simp [ho]
      clear hr ho
      go_wp2
      go_ret
      exact ⟨rfl, B1.out⟩
    · have g1 : ((g.l.o : Int) != (ow : Int)) = true := bne_iff_ne.2 (by omega)
      obtain rfl : r = true := by rw [← hr]; simp [ho]
      clear hr ho
      go_wp2
      go_ret
      exact ⟨rfl, B1.out⟩
  · obtain rfl : r = false := by rw [← hr]; simp
    clear hr
    go_wp2
    go_ret
    exact ⟨rfl, B1.out⟩
set_option maxHeartbeats 400000 in
theorem agin_any (w : World) (ph tx : Nat) (r : Bool) (hr : decide (g.ph = ph ∧ g.tx = tx) = r) :
    Calls Try.prog 70 #[.agg (agC A c s g).toArray, .int .u8 (ph : Int), .int .u32 (tx : Int)] w fun e w' => e = .returned (.bool r) ∧ Below w.heap.size w w' := by
  go_enter Try.func70, Try.ntmps70
  go_upto_region 1 with fail
  obtain ⟨w0, hw0⟩ : ∃ w_q_, w_q_ = w.alloc (.cells (agC A c s g).toArray 35) := ⟨_, rfl⟩
  rw [← hw0]
  have hin := in_a w (agC A c s g)
  rw [← hw0] at hin
  obtain ⟨r1, b0, z0⟩ := hin
  have R1 := Lib.hid r1
  have B0 := Lib.hid b0
  clear hw0 r1 b0
  have alt : w.heap.size < (w0).heap.size := R1.out.lt
  have alu : w.heap.size < (w0).heap.size + 1 := Nat.lt_succ_of_lt R1.out.lt
  have a0 : (w0).cell? ⟨w.heap.size, 0, none⟩ = some (.slice A g.bank.length c) := R1.out.cells 0
  have az0 : (w0).frozen? ⟨w.heap.size, 0, none⟩ = false := R1.out.frozen 0
  have a1 : (w0).cell? ⟨w.heap.size, 1, none⟩ = some (.int .u16 (g.l.o : Int)) := R1.out.cells 1
  have az1 : (w0).frozen? ⟨w.heap.size, 1, none⟩ = false := R1.out.frozen 1
  have a2 : (w0).cell? ⟨w.heap.size, 2, none⟩ = some (.int .i64 g.l.l) := R1.out.cells 2
  have az2 : (w0).frozen? ⟨w.heap.size, 2, none⟩ = false := R1.out.frozen 2
  have a3 : (w0).cell? ⟨w.heap.size, 3, none⟩ = some (.int .u8 (g.ph : Int)) := R1.out.cells 3
  have az3 : (w0).frozen? ⟨w.heap.size, 3, none⟩ = false := R1.out.frozen 3
  have a4 : (w0).cell? ⟨w.heap.size, 4, none⟩ = some (.int .u32 (g.tx : Int)) := R1.out.cells 4
  have az4 : (w0).frozen? ⟨w.heap.size, 4, none⟩ = false := R1.out.frozen 4
  by_cases h1 : g.ph = ph
  · have g1 : ((g.ph : Int) == (ph : Int)) = true := beq_iff_eq.2 (by omega)
    by_cases h2 : g.tx = tx
    · have g2 : ((g.tx : Int) == (tx : Int)) = true := beq_iff_eq.2 (by omega)
      obtain rfl : r = true := by rw [← hr]; simp [h1, h2]
      clear hr h1 h2
      go_wp2
      go_ret
      exact ⟨rfl, B0.out⟩
    · have g2 : ((g.tx : Int) == (tx : Int)) = false := beq_eq_false_iff_ne.2 (by omega)
      obtain rfl : r = false := by rw [← hr]; simp [h2]
      clear hr h1 h2
      go_wp2
      go_ret
      exact ⟨rfl, B0.out⟩
  · have g1 : ((g.ph : Int) == (ph : Int)) = false := beq_eq_false_iff_ne.2 (by omega)
    obtain rfl : r = false := by rw [← hr]; simp [h1]
    clear hr h1
    go_wp2
    go_ret
    exact ⟨rfl, B0.out⟩
theorem agin2_any (w : World) (tx : Nat) (r : Bool) (hr : decide (g.ph = 2 ∧ g.tx = tx) = r) :
    Calls Try.prog 70 #[.agg (agC A c s g).toArray, .int .u8 2, .int .u32 (tx : Int)] w fun e w' => e = .returned (.bool r) ∧ Below w.heap.size w w' := agin_any w 2 tx r hr
theorem agin1_any (w : World) (tx : Nat) (r : Bool) (hr : decide (g.ph = 1 ∧ g.tx = tx) = r) :
    Calls Try.prog 70 #[.agg (agC A c s g).toArray, .int .u8 1, .int .u32 (tx : Int)] w fun e w' => e = .returned (.bool r) ∧ Below w.heap.size w w' := agin_any w 1 tx r hr
set_option maxHeartbeats 400000 in
theorem agnoClaim_any (w : World) (q : Cmd) (r : Bool) (hr : decide (q.tx ≤ g.la ∨ (g.ph ≠ 0 ∧ q.tx < g.tx)) = r) :
    Calls Try.prog 87 #[.agg (agC A c s g).toArray, .agg (cmdL q).toArray] w fun e w' => e = .returned (.bool r) ∧ Below w.heap.size w w' := by
  go_enter Try.func87, Try.ntmps87
  go_upto_region 1 with fail
  obtain ⟨w0, hw0⟩ : ∃ w_q_, w_q_ = (w.alloc (.cells (agC A c s g).toArray 35)).alloc (.cells (cmdL q).toArray 41) := ⟨_, rfl⟩
  rw [← hw0]
  have hin := in_ac w (agC A c s g) (cmdL q)
  rw [← hw0] at hin
  obtain ⟨r1, r2, b0, z0⟩ := hin
  have R1 := Lib.hid r1
  have R2 := Lib.hid r2
  have B0 := Lib.hid b0
  clear hw0 r1 r2 b0
  have alt : w.heap.size < (w0).heap.size := R1.out.lt
  have alu : w.heap.size < (w0).heap.size + 1 := Nat.lt_succ_of_lt R1.out.lt
  have a0 : (w0).cell? ⟨w.heap.size, 0, none⟩ = some (.slice A g.bank.length c) := R1.out.cells 0
  have az0 : (w0).frozen? ⟨w.heap.size, 0, none⟩ = false := R1.out.frozen 0
  have a1 : (w0).cell? ⟨w.heap.size, 1, none⟩ = some (.int .u16 (g.l.o : Int)) := R1.out.cells 1
  have az1 : (w0).frozen? ⟨w.heap.size, 1, none⟩ = false := R1.out.frozen 1
  have a2 : (w0).cell? ⟨w.heap.size, 2, none⟩ = some (.int .i64 g.l.l) := R1.out.cells 2
  have az2 : (w0).frozen? ⟨w.heap.size, 2, none⟩ = false := R1.out.frozen 2
  have a3 : (w0).cell? ⟨w.heap.size, 3, none⟩ = some (.int .u8 (g.ph : Int)) := R1.out.cells 3
  have az3 : (w0).frozen? ⟨w.heap.size, 3, none⟩ = false := R1.out.frozen 3
  have a4 : (w0).cell? ⟨w.heap.size, 4, none⟩ = some (.int .u32 (g.tx : Int)) := R1.out.cells 4
  have az4 : (w0).frozen? ⟨w.heap.size, 4, none⟩ = false := R1.out.frozen 4
  have a5 : (w0).cell? ⟨w.heap.size, 5, none⟩ = some (.int .u32 (g.la : Int)) := R1.out.cells 5
  have az5 : (w0).frozen? ⟨w.heap.size, 5, none⟩ = false := R1.out.frozen 5
  have dlt : w.heap.size + 1 < (w0).heap.size := R2.out.lt
  have dlu : w.heap.size + 1 < (w0).heap.size + 1 := Nat.lt_succ_of_lt R2.out.lt
  have d0 : (w0).cell? ⟨w.heap.size + 1, 0, none⟩ = some (.int .u16 (q.ow : Int)) := R2.out.cells 0
  have dz0 : (w0).frozen? ⟨w.heap.size + 1, 0, none⟩ = false := R2.out.frozen 0
  have d1 : (w0).cell? ⟨w.heap.size + 1, 1, none⟩ = some (.int .u8 (q.v : Int)) := R2.out.cells 1
  have dz1 : (w0).frozen? ⟨w.heap.size + 1, 1, none⟩ = false := R2.out.frozen 1
  have d2 : (w0).cell? ⟨w.heap.size + 1, 2, none⟩ = some (.int .u32 (q.tx : Int)) := R2.out.cells 2
  have dz2 : (w0).frozen? ⟨w.heap.size + 1, 2, none⟩ = false := R2.out.frozen 2
  by_cases h1 : q.tx ≤ g.la
  · have g1 : decide (q.tx ≤ g.la) = true := decide_eq_true (by omega)
    obtain rfl : r = true := by rw [← hr]; simp [h1]
    clear hr h1
    go_wp2
    go_ret
    exact ⟨rfl, B0.out⟩
  · have g1 : decide (q.tx ≤ g.la) = false := decide_eq_false (by omega)
    by_cases h2 : g.ph = 0
    · have g2 : ((g.ph : Int) != 0) = false := by simp [h2]
      obtain rfl : r = false := by rw [← hr]; simp [h1, h2]
      clear hr h1 h2
      go_wp2
      go_ret
      exact ⟨rfl, B0.out⟩
    · have g2 : ((g.ph : Int) != 0) = true := bne_iff_ne.2 (by omega)
      obtain ⟨b, hb⟩ : ∃ b, decide (q.tx < g.tx) = b := ⟨_, rfl⟩
      obtain rfl : r = b := by
        rw [← hr, ← hb, decide_eq_decide]
        omega
      clear hr h1 h2
      cases r
      · go_wp2
        go_ret
        exact ⟨rfl, B0.out⟩
      · go_wp2
        go_ret
        exact ⟨rfl, B0.out⟩
set_option maxHeartbeats 400000 in
theorem agnoAbort_any (w : World) (q : Cmd) (r : Bool) (hr : decide (q.tx ≤ g.la) = r) :
    Calls Try.prog 93 #[.agg (agC A c s g).toArray, .agg (cmdL q).toArray] w fun e w' => e = .returned (.bool r) ∧ Below w.heap.size w w' := by
  go_enter Try.func93, Try.ntmps93
  go_upto_region 1 with fail
  obtain ⟨w0, hw0⟩ : ∃ w_q_, w_q_ = (w.alloc (.cells (agC A c s g).toArray 35)).alloc (.cells (cmdL q).toArray 41) := ⟨_, rfl⟩
  rw [← hw0]
  have hin := in_ac w (agC A c s g) (cmdL q)
  rw [← hw0] at hin
  obtain ⟨r1, r2, b0, z0⟩ := hin
  have R1 := Lib.hid r1
  have R2 := Lib.hid r2
  have B0 := Lib.hid b0
  clear hw0 r1 r2 b0
  have alt : w.heap.size < (w0).heap.size := R1.out.lt
  have alu : w.heap.size < (w0).heap.size + 1 := Nat.lt_succ_of_lt R1.out.lt
  have a0 : (w0).cell? ⟨w.heap.size, 0, none⟩ = some (.slice A g.bank.length c) := R1.out.cells 0
  have az0 : (w0).frozen? ⟨w.heap.size, 0, none⟩ = false := R1.out.frozen 0
  have a1 : (w0).cell? ⟨w.heap.size, 1, none⟩ = some (.int .u16 (g.l.o : Int)) := R1.out.cells 1
  have az1 : (w0).frozen? ⟨w.heap.size, 1, none⟩ = false := R1.out.frozen 1
  have a2 : (w0).cell? ⟨w.heap.size, 2, none⟩ = some (.int .i64 g.l.l) := R1.out.cells 2
  have az2 : (w0).frozen? ⟨w.heap.size, 2, none⟩ = false := R1.out.frozen 2
  have a3 : (w0).cell? ⟨w.heap.size, 3, none⟩ = some (.int .u8 (g.ph : Int)) := R1.out.cells 3
  have az3 : (w0).frozen? ⟨w.heap.size, 3, none⟩ = false := R1.out.frozen 3
  have a4 : (w0).cell? ⟨w.heap.size, 4, none⟩ = some (.int .u32 (g.tx : Int)) := R1.out.cells 4
  have az4 : (w0).frozen? ⟨w.heap.size, 4, none⟩ = false := R1.out.frozen 4
  have a5 : (w0).cell? ⟨w.heap.size, 5, none⟩ = some (.int .u32 (g.la : Int)) := R1.out.cells 5
  have az5 : (w0).frozen? ⟨w.heap.size, 5, none⟩ = false := R1.out.frozen 5
  have dlt : w.heap.size + 1 < (w0).heap.size := R2.out.lt
  have dlu : w.heap.size + 1 < (w0).heap.size + 1 := Nat.lt_succ_of_lt R2.out.lt
  have d0 : (w0).cell? ⟨w.heap.size + 1, 0, none⟩ = some (.int .u16 (q.ow : Int)) := R2.out.cells 0
  have dz0 : (w0).frozen? ⟨w.heap.size + 1, 0, none⟩ = false := R2.out.frozen 0
  have d1 : (w0).cell? ⟨w.heap.size + 1, 1, none⟩ = some (.int .u8 (q.v : Int)) := R2.out.cells 1
  have dz1 : (w0).frozen? ⟨w.heap.size + 1, 1, none⟩ = false := R2.out.frozen 1
  have d2 : (w0).cell? ⟨w.heap.size + 1, 2, none⟩ = some (.int .u32 (q.tx : Int)) := R2.out.cells 2
  have dz2 : (w0).frozen? ⟨w.heap.size + 1, 2, none⟩ = false := R2.out.frozen 2
  have g1 : decide (q.tx ≤ g.la) = r := hr
  clear hr
  go_wp2
  go_ret
  exact ⟨rfl, B0.out⟩
set_option maxHeartbeats 400000 in
theorem agnoCommit_any (w : World) (q : Cmd) (r : Bool) (h : AgIs A c s g w base) (hr : decide (g.la ≠ q.tx ∧ ¬ (g.ph = 2 ∧ g.tx = q.tx)) = r) :
    Calls Try.prog 91 #[.agg (agC A c s g).toArray, .agg (cmdL q).toArray] w fun e w' => e = .returned (.bool r) ∧ Below w.heap.size w w' := by
  obtain ⟨b, hb⟩ : ∃ b, decide (g.ph = 2 ∧ g.tx = q.tx) = b := ⟨_, rfl⟩
  have ki := Lib.hid (fun W => agin2_any (A := A) (c := c) (s := s) (g := g) W q.tx b hb)
  have HC := Lib.hid h.C32
  go_enter Try.func91, Try.ntmps91
  go_upto_region 1 with fail
  obtain ⟨w0, hw0⟩ : ∃ w_q_, w_q_ = (w.alloc (.cells (agC A c s g).toArray 35)).alloc (.cells (cmdL q).toArray 41) := ⟨_, rfl⟩
  rw [← hw0]
  have hin := in_ac w (agC A c s g) (cmdL q)
  rw [← hw0] at hin
  obtain ⟨r1, r2, b0, z0⟩ := hin
  have R1 := Lib.hid r1
  have R2 := Lib.hid r2
  have B0 := Lib.hid b0
  clear hw0 r1 r2 b0 h
  have alt : w.heap.size < (w0).heap.size := R1.out.lt
  have alu : w.heap.size < (w0).heap.size + 1 := Nat.lt_succ_of_lt R1.out.lt
  have a0 : (w0).cell? ⟨w.heap.size, 0, none⟩ = some (.slice A g.bank.length c) := R1.out.cells 0
  have az0 : (w0).frozen? ⟨w.heap.size, 0, none⟩ = false := R1.out.frozen 0
  have a1 : (w0).cell? ⟨w.heap.size, 1, none⟩ = some (.int .u16 (g.l.o : Int)) := R1.out.cells 1
  have az1 : (w0).frozen? ⟨w.heap.size, 1, none⟩ = false := R1.out.frozen 1
  have a2 : (w0).cell? ⟨w.heap.size, 2, none⟩ = some (.int .i64 g.l.l) := R1.out.cells 2
  have az2 : (w0).frozen? ⟨w.heap.size, 2, none⟩ = false := R1.out.frozen 2
  have a3 : (w0).cell? ⟨w.heap.size, 3, none⟩ = some (.int .u8 (g.ph : Int)) := R1.out.cells 3
  have az3 : (w0).frozen? ⟨w.heap.size, 3, none⟩ = false := R1.out.frozen 3
  have a4 : (w0).cell? ⟨w.heap.size, 4, none⟩ = some (.int .u32 (g.tx : Int)) := R1.out.cells 4
  have az4 : (w0).frozen? ⟨w.heap.size, 4, none⟩ = false := R1.out.frozen 4
  have a5 : (w0).cell? ⟨w.heap.size, 5, none⟩ = some (.int .u32 (g.la : Int)) := R1.out.cells 5
  have az5 : (w0).frozen? ⟨w.heap.size, 5, none⟩ = false := R1.out.frozen 5
  have dlt : w.heap.size + 1 < (w0).heap.size := R2.out.lt
  have dlu : w.heap.size + 1 < (w0).heap.size + 1 := Nat.lt_succ_of_lt R2.out.lt
  have d0 : (w0).cell? ⟨w.heap.size + 1, 0, none⟩ = some (.int .u16 (q.ow : Int)) := R2.out.cells 0
  have dz0 : (w0).frozen? ⟨w.heap.size + 1, 0, none⟩ = false := R2.out.frozen 0
  have d1 : (w0).cell? ⟨w.heap.size + 1, 1, none⟩ = some (.int .u8 (q.v : Int)) := R2.out.cells 1
  have dz1 : (w0).frozen? ⟨w.heap.size + 1, 1, none⟩ = false := R2.out.frozen 1
  have d2 : (w0).cell? ⟨w.heap.size + 1, 2, none⟩ = some (.int .u32 (q.tx : Int)) := R2.out.cells 2
  have dz2 : (w0).frozen? ⟨w.heap.size + 1, 2, none⟩ = false := R2.out.frozen 2
  by_cases h1 : g.la = q.tx
  · have g1 : ((g.la : Int) != (q.tx : Int)) = false := by simp [h1]
    obtain rfl : r = false := by rw [← hr]; simp [h1]
    clear hr h1 hb
    go_wp2
    go_ret
    exact ⟨rfl, B0.out⟩
  · have g1 : ((g.la : Int) != (q.tx : Int)) = true := bne_iff_ne.2 (by omega)
    obtain rfl : r = !b := by
      rw [← hr, ← hb]
      by_cases h2 : g.ph = 2 ∧ g.tx = q.tx
      · rw [decide_eq_true h2, decide_eq_false (fun h => h.2 h2)]; rfl
      · rw [decide_eq_false h2, decide_eq_true ⟨h1, h2⟩]; rfl
    clear hr h1 hb
    go_wp2_with (first | (refine wpList_load_row_g (by kernel_rfl) 35 (.tmp 2) rfl w.heap.size rfl 35 _ (0, 0) _ R1.out Try.underlying35 rfl (by rw [size_32, List.size_toArray, HC.out]) ?_))
    with_reducible refine (ki.out _).mono ?_
    rintro e1 w1 ⟨rfl, hb1⟩
    have B1 := Lib.hid (B0.out.trans (hb1.mono B0.out.size))
    clear hb1
    cases b
    · go_wp2
      go_ret
      exact ⟨rfl, B1.out⟩
    · go_wp2
      go_ret
      exact ⟨rfl, B1.out⟩
end
end Go.Proofs.Ytajbghjjpebndaa
namespace Go.Proofs.Ytajbghjjpebndaa
set_option maxRecDepth 100000
open Go.RowKit
set_option linter.unusedVariables false
set_option linter.unusedSimpArgs false
attribute [local go_sem] Later.cell Later.frozen setCell_twice
theorem wpList_load_mid_g {P : Program} {ops : Array Oper} {rest : List Oper} {op : Oper} {a : Act} {w : World} {Q : Exit → Act → World → Prop} (hw : Region.wanted op (yielded ops a.tmps) = true) (ty : TypeId) (x : Operand) (ho : op.op = .load ty x)
    (b o : Nat) (hx : a.eval x = .pointer (some ⟨b, o, none⟩)) (cs : List Value) (d : TypeDesc) (hc : w.rangeAt b o cs)
    (hu : P.underlying ty = some d) (hd : d.isRow = true) (hi : (P.info? ty).map (·.size) = some cs.length)
    (h : wpList P ops Q rest (a.put op.dst (.agg cs.toArray)) w) : wpList P ops Q (op :: rest) a w :=
  wpList_step fun K hK => by rw [if_pos hw]; exact wp_load_mid ty x ho b o hx cs d hc hu hd hi (hK _ _ h)
/-- an agent, its memory from block base on -/
def AgB (w : World) (base : Nat) (g : Ag) (e : Ending) (w' : World) : Prop := ∃ A c s, e = .returned (.agg (agC A c s g).toArray) ∧ AgIs A c s g w' base ∧ Below w.heap.size w w'
section
variable {A : Option Addr} {c base : Nat} {s : Stv} {g : Ag}
set_option maxHeartbeats 400000 in
theorem agtaken_any (w : World) (h : AgIs A c s g w base) (ow : Nat) (L : Ls.L) (how : ow < 65536) (hL : (Ls.take g.l ow g.tk).1 = L) :
    Calls Try.prog 72 #[.agg (agC A c s g).toArray, .int .u16 (ow : Int)] w fun e w' => e = .returned (.agg (agC A c s ⟨g.bank, L, g.ph, g.tx, g.la, g.stx, g.S, g.tk⟩).toArray) ∧ Below w.heap.size w w' := by
  obtain ⟨er, her⟩ : ∃ er, (Ls.take g.l ow g.tk).2 = er := ⟨_, rfl⟩
  have kt := Lib.hid (fun W => take_any g.l ow g.tk W h.fit how h.tk.1 h.tk.2)
  rw [hL, her] at kt
  have H25 := h.C25
  have HC : Hid ((agC A c s ⟨g.bank, L, g.ph, g.tx, g.la, g.stx, g.S, g.tk⟩).length = 32) := Lib.hid (agL_length H25)
  clear h hL her
  go_enter Try.func72, Try.ntmps72
  go_upto_region 1 with fail
  obtain ⟨w0, hw0⟩ : ∃ w_q_, w_q_ = (w.alloc (.cells (agC A c s g).toArray 35)).alloc (.cells z32 35) := ⟨_, rfl⟩
  rw [← hw0]
  have hin := in_ar w (agC A c s g)
  rw [← hw0] at hin
  obtain ⟨r1, r2, b0, z0⟩ := hin
  have R1 := Lib.hid r1
  have R2 := Lib.hid r2
  have B0 := Lib.hid b0
  clear hw0 r1 r2 b0
  have alt : w.heap.size < (w0).heap.size := R1.out.lt
  have alu : w.heap.size < (w0).heap.size + 1 := Nat.lt_succ_of_lt R1.out.lt
  have a0 : (w0).cell? ⟨w.heap.size, 0, none⟩ = some (.slice A g.bank.length c) := R1.out.cells 0
  have az0 : (w0).frozen? ⟨w.heap.size, 0, none⟩ = false := R1.out.frozen 0
  have a1 : (w0).cell? ⟨w.heap.size, 1, none⟩ = some (.int .u16 (g.l.o : Int)) := R1.out.cells 1
  have az1 : (w0).frozen? ⟨w.heap.size, 1, none⟩ = false := R1.out.frozen 1
  have a2 : (w0).cell? ⟨w.heap.size, 2, none⟩ = some (.int .i64 g.l.l) := R1.out.cells 2
  have az2 : (w0).frozen? ⟨w.heap.size, 2, none⟩ = false := R1.out.frozen 2
  have a31 : w0.cell? ⟨w.heap.size, 31, none⟩ = some (.int .i64 g.tk) := R1.out.cell (agL_tk H25)
  go_wp2_with fail
  with_reducible refine (kt.out _).mono ?_
  rintro e1 w1 ⟨rfl, hb1⟩
  replace R1 := Lib.hid (R1.out.to hb1)
  replace R2 := Lib.hid (R2.out.to hb1)
  have B1 := Lib.hid (B0.out.trans (hb1.mono B0.out.size))
  have hz1 := hb1.size
  clear hb1 a0 a1 a2 az0 az1 az2 a31 B0
  have dlt : w.heap.size < (w1).heap.size := R1.out.lt
  have dlu : w.heap.size < (w1).heap.size + 1 := Nat.lt_succ_of_lt R1.out.lt
  have d0 : (w1).cell? ⟨w.heap.size, 0, none⟩ = some (.slice A g.bank.length c) := R1.out.cells 0
  have dz0 : (w1).frozen? ⟨w.heap.size, 0, none⟩ = false := R1.out.frozen 0
  have d1 : (w1).cell? ⟨w.heap.size, 1, none⟩ = some (.int .u16 (g.l.o : Int)) := R1.out.cells 1
  have dz1 : (w1).frozen? ⟨w.heap.size, 1, none⟩ = false := R1.out.frozen 1
  have d2 : (w1).cell? ⟨w.heap.size, 2, none⟩ = some (.int .i64 g.l.l) := R1.out.cells 2
  have dz2 : (w1).frozen? ⟨w.heap.size, 2, none⟩ = false := R1.out.frozen 2
  go_upto_region 2 with fail
  obtain ⟨w2, hw2⟩ : ∃ w_q_, w_q_ = (w1.setCell ⟨w.heap.size, 1, none⟩ (.int .u16 (L.o : Int))).setCell ⟨w.heap.size, 2, none⟩ (.int .i64 L.l) := ⟨_, rfl⟩
  rw [← hw2]
  have k2 : Only w.heap.size w1 w2 := by rw [hw2]; exact ((Only.refl _ _).set _).set _
  have R3 : Hid (RowAt w2 w.heap.size 35 (agC A c s ⟨g.bank, L, g.ph, g.tx, g.la, g.stx, g.S, g.tk⟩)) := Lib.hid (by rw [hw2]; exact (R1.out.set 1 _).set 2 _)
  have B2 := Lib.hid (k2.to B1.out (Nat.le_refl _))
  replace R2 := Lib.hid (R2.out.only k2 (by omega))
  clear hw2 k2 R1 B1 d0 d1 d2 dz0 dz1 dz2
  go_wp2_with (first | (refine wpList_load_var rfl 35 (.tmp 2) rfl (w.heap.size) rfl _ _ 32 R3.out Try.underlying35 rfl size_32 HC.out ?_) | (refine wpList_store_var rfl 35 (.tmp 4) (.tmp 15) rfl (w.heap.size + 1) _ (agC A c s ⟨g.bank, L, g.ph, g.tx, g.la, g.stx, g.S, g.tk⟩) 32 rfl rfl R2.out size_32 (by first | rfl | exact HCO.out) HC.out (agC_one _) ?_; intro w_5 r_5 k_5; have R_5 := Lib.hid r_5; have K_5 := Lib.hid k_5; clear r_5 k_5))
  exact bodyPost_ret (results_cell_row rfl _ _ (w.heap.size + 1) 35 _ (0, 0) _ rfl R_5.out Try.underlying35 rfl (by rw [size_32, List.size_toArray, HC.out])) rfl ⟨rfl, K_5.out.to B2.out (by omega)⟩
set_option maxHeartbeats 400000 in
theorem agprepare_any (w : World) (h : AgIs A c s g w base) (q : Cmd) (L : Ls.L) (hq : q.Fit) (hL : (Ls.hold g.l q.ow).1 = L) :
    Calls Try.prog 90 #[.agg (agC A c s g).toArray, .agg (cmdL q).toArray] w fun e w' => e = .returned (.agg (agC A c s ⟨g.bank, L, 2, g.tx, g.la, g.stx, g.S, g.tk⟩).toArray) ∧ Below w.heap.size w w' := by
  obtain ⟨er, her⟩ : ∃ er, (Ls.hold g.l q.ow).2 = er := ⟨_, rfl⟩
  have kt := Lib.hid (fun W => hold_any g.l q.ow W h.fit hq.ow)
  rw [hL, her] at kt
  have H25 := h.C25
  have HC : Hid ((agC A c s ⟨g.bank, L, 2, g.tx, g.la, g.stx, g.S, g.tk⟩).length = 32) := Lib.hid (agL_length H25)
  clear h hL her
  go_enter Try.func90, Try.ntmps90
  go_upto_region 1 with fail
  obtain ⟨w0, hw0⟩ : ∃ w_q_, w_q_ = ((w.alloc (.cells (agC A c s g).toArray 35)).alloc (.cells (cmdL q).toArray 41)).alloc (.cells z32 35) := ⟨_, rfl⟩
  rw [← hw0]
  have hin := in_acr w (agC A c s g) (cmdL q)
  rw [← hw0] at hin
  obtain ⟨r1, rq, r2, b0, z0⟩ := hin
  have R1 := Lib.hid r1
  have RQ := Lib.hid rq
  have R2 := Lib.hid r2
  have B0 := Lib.hid b0
  clear hw0 r1 r2 b0 rq
  have alt : w.heap.size < (w0).heap.size := R1.out.lt
  have alu : w.heap.size < (w0).heap.size + 1 := Nat.lt_succ_of_lt R1.out.lt
  have a0 : (w0).cell? ⟨w.heap.size, 0, none⟩ = some (.slice A g.bank.length c) := R1.out.cells 0
  have az0 : (w0).frozen? ⟨w.heap.size, 0, none⟩ = false := R1.out.frozen 0
  have a1 : (w0).cell? ⟨w.heap.size, 1, none⟩ = some (.int .u16 (g.l.o : Int)) := R1.out.cells 1
  have az1 : (w0).frozen? ⟨w.heap.size, 1, none⟩ = false := R1.out.frozen 1
  have a2 : (w0).cell? ⟨w.heap.size, 2, none⟩ = some (.int .i64 g.l.l) := R1.out.cells 2
  have az2 : (w0).frozen? ⟨w.heap.size, 2, none⟩ = false := R1.out.frozen 2
  have a3 : (w0).cell? ⟨w.heap.size, 3, none⟩ = some (.int .u8 (g.ph : Int)) := R1.out.cells 3
  have az3 : (w0).frozen? ⟨w.heap.size, 3, none⟩ = false := R1.out.frozen 3
  have qlt : w.heap.size + 1 < (w0).heap.size := RQ.out.lt
  have qlu : w.heap.size + 1 < (w0).heap.size + 1 := Nat.lt_succ_of_lt RQ.out.lt
  have q0 : (w0).cell? ⟨w.heap.size + 1, 0, none⟩ = some (.int .u16 (q.ow : Int)) := RQ.out.cells 0
  have qz0 : (w0).frozen? ⟨w.heap.size + 1, 0, none⟩ = false := RQ.out.frozen 0
  go_wp2_with fail
  with_reducible refine (kt.out _).mono ?_
  rintro e1 w1 ⟨rfl, hb1⟩
  have k1 : Only w.heap.size w0 (w0.setCell ⟨w.heap.size, 3, none⟩ (.int .u8 2)) := (Only.refl _ _).set _
  have r1 : RowAt (w0.setCell ⟨w.heap.size, 3, none⟩ (.int .u8 2)) w.heap.size 35 (agC A c s ⟨g.bank, g.l, 2, g.tx, g.la, g.stx, g.S, g.tk⟩) := R1.out.set 3 _
  replace R1 := Lib.hid (r1.to hb1)
  replace R2 := Lib.hid ((R2.out.only k1 (by omega)).to hb1)
  have b1 := k1.to B0.out (Nat.le_refl _)
  have B1 := Lib.hid (b1.trans (hb1.mono b1.size))
  have hz1 := hb1.size
  have hz2 := k1.size
  clear hb1 a0 a1 a2 az0 az1 az2 a3 az3 B0 r1 k1 b1 q0 qz0 RQ
  replace hz1 : w.heap.size + 3 ≤ w1.heap.size := by omega
  clear hz2
  have dlt : w.heap.size < (w1).heap.size := R1.out.lt
  have dlu : w.heap.size < (w1).heap.size + 1 := Nat.lt_succ_of_lt R1.out.lt
  have d0 : (w1).cell? ⟨w.heap.size, 0, none⟩ = some (.slice A g.bank.length c) := R1.out.cells 0
  have dz0 : (w1).frozen? ⟨w.heap.size, 0, none⟩ = false := R1.out.frozen 0
  have d1 : (w1).cell? ⟨w.heap.size, 1, none⟩ = some (.int .u16 (g.l.o : Int)) := R1.out.cells 1
  have dz1 : (w1).frozen? ⟨w.heap.size, 1, none⟩ = false := R1.out.frozen 1
  have d2 : (w1).cell? ⟨w.heap.size, 2, none⟩ = some (.int .i64 g.l.l) := R1.out.cells 2
  have dz2 : (w1).frozen? ⟨w.heap.size, 2, none⟩ = false := R1.out.frozen 2
  go_upto_region 3 with fail
  obtain ⟨w2, hw2⟩ : ∃ w_q_, w_q_ = (w1.setCell ⟨w.heap.size, 1, none⟩ (.int .u16 (L.o : Int))).setCell ⟨w.heap.size, 2, none⟩ (.int .i64 L.l) := ⟨_, rfl⟩
  rw [← hw2]
  have k2 : Only w.heap.size w1 w2 := by rw [hw2]; exact ((Only.refl _ _).set _).set _
  have R3 : Hid (RowAt w2 w.heap.size 35 (agC A c s ⟨g.bank, L, 2, g.tx, g.la, g.stx, g.S, g.tk⟩)) := Lib.hid (by rw [hw2]; exact (R1.out.set 1 _).set 2 _)
  have B2 := Lib.hid (k2.to B1.out (Nat.le_refl _))
  replace R2 := Lib.hid (R2.out.only k2 (by omega))
  clear hw2 k2 R1 B1 d0 d1 d2 dz0 dz1 dz2
  go_wp2_with (first | (refine wpList_load_var rfl 35 (.tmp 2) rfl (w.heap.size) rfl _ _ 32 R3.out Try.underlying35 rfl size_32 HC.out ?_) | (refine wpList_store_var rfl 35 (.tmp 4) (.tmp 15) rfl (w.heap.size + 2) _ (agC A c s ⟨g.bank, L, 2, g.tx, g.la, g.stx, g.S, g.tk⟩) 32 rfl rfl R2.out size_32 (by first | rfl | exact HCO.out) HC.out (agC_one _) ?_; intro w_5 r_5 k_5; have R_5 := Lib.hid r_5; have K_5 := Lib.hid k_5; clear r_5 k_5))
  exact bodyPost_ret (results_cell_row rfl _ _ (w.heap.size + 2) 35 _ (0, 0) _ rfl R_5.out Try.underlying35 rfl (by rw [size_32, List.size_toArray, HC.out])) rfl ⟨rfl, K_5.out.to B2.out (by omega)⟩
set_option maxHeartbeats 400000 in
theorem agabort_any (w : World) (h : AgIs A c s g w base) (q : Cmd) (hb : base ≤ w.heap.size) :
    Calls Try.prog 94 #[.agg (agC A c s g).toArray, .agg (cmdL q).toArray] w (AgB w base (if g.l.o ≠ q.ow ∨ g.tx ≠ q.tx then g else g.freed)) := by
  obtain ⟨X, hX⟩ : ∃ X, (if g.l.o ≠ q.ow ∨ g.tx ≠ q.tx then g else g.freed) = X := ⟨_, rfl⟩
  rw [hX]
  have HX := Lib.hid hX
  clear hX
  have kf := Lib.hid (fun W (hW : Below w.heap.size w W) => agfreed_any W (h.to hW))
  have HC := Lib.hid h.C32
  have HF := Lib.hid h.freed.C32
  have IS := Lib.hid h
  clear h
  go_enter Try.func94, Try.ntmps94
  go_upto_region 1 with fail
  obtain ⟨w0, hw0⟩ : ∃ w_q_, w_q_ = ((w.alloc (.cells (agC A c s g).toArray 35)).alloc (.cells (cmdL q).toArray 41)).alloc (.cells z32 35) := ⟨_, rfl⟩
  rw [← hw0]
  have hin := in_acr w (agC A c s g) (cmdL q)
  rw [← hw0] at hin
  obtain ⟨r1, rq, r2, b0, z0⟩ := hin
  have R1 := Lib.hid r1
  have RQ := Lib.hid rq
  have R2 := Lib.hid r2
  have B0 := Lib.hid b0
  clear hw0 r1 r2 b0 rq
  have alt : w.heap.size < (w0).heap.size := R1.out.lt
  have alu : w.heap.size < (w0).heap.size + 1 := Nat.lt_succ_of_lt R1.out.lt
  have a0 : (w0).cell? ⟨w.heap.size, 0, none⟩ = some (.slice A g.bank.length c) := R1.out.cells 0
  have az0 : (w0).frozen? ⟨w.heap.size, 0, none⟩ = false := R1.out.frozen 0
  have a1 : (w0).cell? ⟨w.heap.size, 1, none⟩ = some (.int .u16 (g.l.o : Int)) := R1.out.cells 1
  have az1 : (w0).frozen? ⟨w.heap.size, 1, none⟩ = false := R1.out.frozen 1
  have a2 : (w0).cell? ⟨w.heap.size, 2, none⟩ = some (.int .i64 g.l.l) := R1.out.cells 2
  have az2 : (w0).frozen? ⟨w.heap.size, 2, none⟩ = false := R1.out.frozen 2
  have a3 : (w0).cell? ⟨w.heap.size, 3, none⟩ = some (.int .u8 (g.ph : Int)) := R1.out.cells 3
  have az3 : (w0).frozen? ⟨w.heap.size, 3, none⟩ = false := R1.out.frozen 3
  have a4 : (w0).cell? ⟨w.heap.size, 4, none⟩ = some (.int .u32 (g.tx : Int)) := R1.out.cells 4
  have az4 : (w0).frozen? ⟨w.heap.size, 4, none⟩ = false := R1.out.frozen 4
  have qlt : w.heap.size + 1 < (w0).heap.size := RQ.out.lt
  have qlu : w.heap.size + 1 < (w0).heap.size + 1 := Nat.lt_succ_of_lt RQ.out.lt
  have q0 : (w0).cell? ⟨w.heap.size + 1, 0, none⟩ = some (.int .u16 (q.ow : Int)) := RQ.out.cells 0
  have qz0 : (w0).frozen? ⟨w.heap.size + 1, 0, none⟩ = false := RQ.out.frozen 0
  have q1 : (w0).cell? ⟨w.heap.size + 1, 1, none⟩ = some (.int .u8 (q.v : Int)) := RQ.out.cells 1
  have qz1 : (w0).frozen? ⟨w.heap.size + 1, 1, none⟩ = false := RQ.out.frozen 1
  have q2 : (w0).cell? ⟨w.heap.size + 1, 2, none⟩ = some (.int .u32 (q.tx : Int)) := RQ.out.cells 2
  have qz2 : (w0).frozen? ⟨w.heap.size + 1, 2, none⟩ = false := RQ.out.frozen 2
  by_cases h1 : g.l.o = q.ow
  · have g1 : ((g.l.o : Int) != (q.ow : Int)) = false := by simp [h1]
    by_cases h2 : g.tx = q.tx
    · have g2 : ((g.tx : Int) != (q.tx : Int)) = false := by simp [h2]
      obtain rfl : g.freed = X := by rw [← HX.out, if_neg (fun h => h.elim (fun h => h h1) (fun h => h h2))]
      clear h1 h2
      go_wp2_with (refine wpList_load_var rfl 35 (.tmp 2) rfl (w.heap.size) rfl _ _ 32 R1.out Try.underlying35 rfl size_32 HC.out ?_)
      with_reducible refine (kf.out _ B0.out).mono ?_
      rintro e1 w1 ⟨rfl, hb1⟩
      replace R2 := Lib.hid (R2.out.to hb1)
      have B1 := Lib.hid (B0.out.trans (hb1.mono B0.out.size))
      clear hb1 B0 a0 a1 a2 a3 a4 az0 az1 az2 az3 az4 q0 q1 q2 qz0 qz1 qz2
      go_wp2_with (refine wpList_store_var rfl 35 (.tmp 4) (.tmp 20) rfl (w.heap.size + 2) _ (agC A c Stv.zero g.freed) 32 rfl rfl R2.out size_32 (by first | rfl | exact HCO.out) HF.out (agC_one _) ?_; intro w_5 r_5 k_5; have R_5 := Lib.hid r_5; have K_5 := Lib.hid k_5; clear r_5 k_5)
      exact bodyPost_ret (results_cell_row rfl _ _ (w.heap.size + 2) 35 _ (0, 0) _ rfl R_5.out Try.underlying35 rfl (by rw [size_32, List.size_toArray, HF.out])) rfl ⟨A, c, _, rfl, IS.out.freed.to (K_5.out.to B1.out (by omega)), K_5.out.to B1.out (by omega)⟩
    · have g2 : ((g.tx : Int) != (q.tx : Int)) = true := bne_iff_ne.2 (by omega)
      obtain rfl : g = X := by rw [← HX.out, if_pos (.inr h2)]
      clear h1 h2
      go_upto_region 2 with fail
      clear a0 a1 a2 a3 a4 az0 az1 az2 az3 az4 q0 q1 q2 qz0 qz1 qz2
      go_wp2_with (first | (refine wpList_load_var rfl 35 (.tmp 2) rfl (w.heap.size) rfl _ _ 32 R1.out Try.underlying35 rfl size_32 HC.out ?_) | (refine wpList_store_var rfl 35 (.tmp 4) (.tmp 18) rfl (w.heap.size + 2) _ (agC A c s g) 32 rfl rfl R2.out size_32 (by first | rfl | exact HCO.out) HC.out (agC_one _) ?_; intro w_5 r_5 k_5; have R_5 := Lib.hid r_5; have K_5 := Lib.hid k_5; clear r_5 k_5))
      exact bodyPost_ret (results_cell_row rfl _ _ (w.heap.size + 2) 35 _ (0, 0) _ rfl R_5.out Try.underlying35 rfl (by rw [size_32, List.size_toArray, HC.out])) rfl ⟨A, c, s, rfl, (IS.out.to (K_5.out.to B0.out (by omega))), K_5.out.to B0.out (by omega)⟩
  · have g1 : ((g.l.o : Int) != (q.ow : Int)) = true := bne_iff_ne.2 (by omega)
    obtain rfl : g = X := by rw [← HX.out, if_pos (.inl h1)]
    clear h1
    go_upto_region 2 with fail
    clear a0 a1 a2 a3 a4 az0 az1 az2 az3 az4 q0 q1 q2 qz0 qz1 qz2
    go_wp2_with (first | (refine wpList_load_var rfl 35 (.tmp 2) rfl (w.heap.size) rfl _ _ 32 R1.out Try.underlying35 rfl size_32 HC.out ?_) | (refine wpList_store_var rfl 35 (.tmp 4) (.tmp 18) rfl (w.heap.size + 2) _ (agC A c s g) 32 rfl rfl R2.out size_32 (by first | rfl | exact HCO.out) HC.out (agC_one _) ?_; intro w_5 r_5 k_5; have R_5 := Lib.hid r_5; have K_5 := Lib.hid k_5; clear r_5 k_5))
    exact bodyPost_ret (results_cell_row rfl _ _ (w.heap.size + 2) 35 _ (0, 0) _ rfl R_5.out Try.underlying35 rfl (by rw [size_32, List.size_toArray, HC.out])) rfl ⟨A, c, s, rfl, (IS.out.to (K_5.out.to B0.out (by omega))), K_5.out.to B0.out (by omega)⟩
set_option maxHeartbeats 400000 in
theorem agnoPrepare_any (w : World) (h : AgIs A c s g w base) (q : Cmd) (r : Bool) (hq : q.Fit) (hr : decide (¬ (g.ph = 2 ∧ g.tx = q.tx) ∧ (¬ (g.ph = 1 ∧ g.tx = q.tx) ∨ ¬ SSW g.S q.n q.ck)) = r) :
    Calls Try.prog 89 #[.agg (agC A c s g).toArray, .agg (cmdL q).toArray] w fun e w' => e = .returned (.bool r) ∧ Below w.heap.size w w' := by
  obtain ⟨b2, hb2⟩ : ∃ b, decide (g.ph = 2 ∧ g.tx = q.tx) = b := ⟨_, rfl⟩
  obtain ⟨b1, hb1⟩ : ∃ b, decide (g.ph = 1 ∧ g.tx = q.tx) = b := ⟨_, rfl⟩
  obtain ⟨b3, hb3⟩ : ∃ b, decide (SSW g.S q.n q.ck) = b := ⟨_, rfl⟩
  have ki2 := Lib.hid (fun W => agin2_any (A := A) (c := c) (s := s) (g := g) W q.tx b2 hb2)
  have ki1 := Lib.hid (fun W => agin1_any (A := A) (c := c) (s := s) (g := g) W q.tx b1 hb1)
  have kw := Lib.hid (fun W (hW : Below w.heap.size w W) => whole_S (q.n : Int) q.ck b3 W (h.st.to hW) (by rw [← hb3]; exact decide_eq_true_iff))
  have hrr : r = (!b2 && (!b1 || !b3)) := by
    rw [← hr, ← hb2, ← hb1, ← hb3]
    by_cases x2 : g.ph = 2 ∧ g.tx = q.tx <;> by_cases x1 : g.ph = 1 ∧ g.tx = q.tx <;> by_cases x3 : SSW g.S q.n q.ck <;> simp [x1, x2, x3]
  have HC := Lib.hid h.C32
  have H25 := h.C25
  have HZ : Hid ((Try.prog.info? 33).map (·.size) = some s.C.length) := Lib.hid (by rw [H25]; exact size_25)
  have hqn := hq.n
  clear h hr hb1 hb2 hb3 hq
  subst hrr
  go_enter Try.func89, Try.ntmps89
  go_upto_region 1 with fail
  obtain ⟨w0, hw0⟩ : ∃ w_q_, w_q_ = (w.alloc (.cells (agC A c s g).toArray 35)).alloc (.cells (cmdL q).toArray 41) := ⟨_, rfl⟩
  rw [← hw0]
  have hin := in_ac w (agC A c s g) (cmdL q)
  rw [← hw0] at hin
  obtain ⟨r1, rq, b0, z0⟩ := hin
  have R1 := Lib.hid r1
  have RQ := Lib.hid rq
  have B0 := Lib.hid b0
  clear hw0 r1 rq b0
  have q2 : w0.cell? ⟨w.heap.size + 1, 2, none⟩ = some (.int .u32 (q.tx : Int)) := RQ.out.cells 2
  go_wp2_with (refine wpList_load_var rfl 35 (.tmp 2) rfl (w.heap.size) rfl _ _ 32 R1.out Try.underlying35 rfl size_32 HC.out ?_)
  with_reducible refine (ki2.out _).mono ?_
  rintro e1 w1 ⟨rfl, hb1⟩
  replace R1 := Lib.hid (R1.out.to hb1)
  replace RQ := Lib.hid (RQ.out.to hb1)
  have B1 := Lib.hid (B0.out.trans (hb1.mono B0.out.size))
  clear hb1 B0 q2
  cases b2
  · have q2 : w1.cell? ⟨w.heap.size + 1, 2, none⟩ = some (.int .u32 (q.tx : Int)) := RQ.out.cells 2
    go_wp2_with (refine wpList_load_var rfl 35 (.tmp 2) rfl (w.heap.size) rfl _ _ 32 R1.out Try.underlying35 rfl size_32 HC.out ?_)
    with_reducible refine (ki1.out _).mono ?_
    rintro e2 w2 ⟨rfl, hb2⟩
    replace R1 := Lib.hid (R1.out.to hb2)
    replace RQ := Lib.hid (RQ.out.to hb2)
    have B2 := Lib.hid (B1.out.trans (hb2.mono B1.out.size))
    clear hb2 B1 q2
    have qlt : w.heap.size + 1 < (w2).heap.size := RQ.out.lt
    have qlu : w.heap.size + 1 < (w2).heap.size + 1 := Nat.lt_succ_of_lt RQ.out.lt
    have q0 : (w2).cell? ⟨w.heap.size + 1, 0, none⟩ = some (.int .u16 (q.ow : Int)) := RQ.out.cells 0
    have qz0 : (w2).frozen? ⟨w.heap.size + 1, 0, none⟩ = false := RQ.out.frozen 0
    have q1 : (w2).cell? ⟨w.heap.size + 1, 1, none⟩ = some (.int .u8 (q.v : Int)) := RQ.out.cells 1
    have qz1 : (w2).frozen? ⟨w.heap.size + 1, 1, none⟩ = false := RQ.out.frozen 1
    have q2 : (w2).cell? ⟨w.heap.size + 1, 2, none⟩ = some (.int .u32 (q.tx : Int)) := RQ.out.cells 2
    have qz2 : (w2).frozen? ⟨w.heap.size + 1, 2, none⟩ = false := RQ.out.frozen 2
    have q3 : (w2).cell? ⟨w.heap.size + 1, 3, none⟩ = some (.int .u16 (q.n : Int)) := RQ.out.cells 3
    have qz3 : (w2).frozen? ⟨w.heap.size + 1, 3, none⟩ = false := RQ.out.frozen 3
    have q4 : (w2).cell? ⟨w.heap.size + 1, 4, none⟩ = some (.int .u32 (q.ck : Int)) := RQ.out.cells 4
    have qz4 : (w2).frozen? ⟨w.heap.size + 1, 4, none⟩ = false := RQ.out.frozen 4
    cases b1
    · go_wp2
      go_ret
      exact ⟨rfl, B2.out⟩
    · have HG := Lib.hid (R1.out.stage H25)
      go_wp2_with (refine wpList_load_mid_g (by kernel_rfl) 33 (.tmp 15) rfl w.heap.size 6 rfl s.C _ HG.out Try.underlying33 rfl HZ.out ?_)
      with_reducible refine (kw.out _ B2.out).mono ?_
      rintro e3 w3 ⟨rfl, hb3⟩
      have B3 := Lib.hid (B2.out.trans (hb3.mono B2.out.size))
      clear hb3
      cases b3
      · go_wp2
        go_ret
        exact ⟨rfl, B3.out⟩
      · go_wp2
        go_ret
        exact ⟨rfl, B3.out⟩
  · go_wp2
    go_ret
    exact ⟨rfl, B1.out⟩
end
end Go.Proofs.Ytajbghjjpebndaa
namespace Go.Proofs.Ytajbghjjpebndaa
set_option maxRecDepth 100000
open Go.RowKit
set_option linter.unusedVariables false
section
variable {P : Program} {ops : Array Oper} {o : Oper} {a : Act} {w : World} {K : Act → World → Prop} {Q : Exit → Act → World → Prop} {E : Prop}
theorem step_load_var (hgd : o.guard = none) (ty : TypeId) (x : Operand) (ho : o.op = .load ty x)
    (g : Nat) (hx : a.eval x = .pointer (some ⟨g, 0, none⟩)) (C : List Value) (d : TypeDesc) (n : Nat) (hR : RowAt w g ty C)
    (hu : P.underlying ty = some d) (hd : (match d with | .struct _ | .array _ _ => true | _ => false) = true) (hi : (P.info? ty).map (·.size) = some n) (hn : C.length = n)
    (h : K (a.put o.dst (.agg C.toArray)) w) : if Region.wanted o (yielded ops a.tmps) = true then Oper.wp P o a w K Q else E := by
  rw [if_pos (by simp [Region.wanted, hgd])]
  exact wp_load_row ty x ho g hx ty C.toArray (0, 0) d hR hu hd (by rw [hi, ← hn]; simp) h
theorem step_store_var (hgd : o.guard = none) (ty : TypeId) (x y : Operand) (ho : o.op = .store ty x y)
    (g : Nat) (C D : List Value) (n : Nat) (hx : a.eval x = .pointer (some ⟨g, 0, none⟩)) (hy : a.eval y = .agg D.toArray) (hR : RowAt w g ty C)
    (hi : (P.info? ty).map (·.size) = some n) (hC : C.length = n) (hD : D.length = n) (h1 : ∀ v ∈ D, v.oneCell' = true)
    (h : ∀ w', RowAt w' g ty D → Only g w w' → K (a.put o.dst undef) w') : if Region.wanted o (yielded ops a.tmps) = true then Oper.wp P o a w K Q else E := by
  rw [if_pos (by simp [Region.wanted, hgd])]
  exact wp_store_row ty x y ho g D.toArray hx hy ty C.toArray hR (by rw [hi, ← hD]; simp) (by simp [hC, hD]) (all_oneCell_toArray h1) (h _ (RowAt.row hR D) ⟨rfl, rfl, rfl, setRow_size _ _ _, fun k hk => setRow_other w g k _ hk⟩)
end
end Go.Proofs.Ytajbghjjpebndaa
