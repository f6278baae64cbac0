/- The walks of agent.Boot, Tick. A map of counts: every key but once. The table of what verbs do. -/
import Derived.Test.YtajbghjjpebndaaQ22
import Derived.Test.YtajbghjjpebndaaQ10
import Derived.Test.YtajbghjjpebndaaQ06
import Derived.MapKept
import Derived.WideMake
import Derived.Carry
namespace Go.Proofs.Ytajbghjjpebndaa
set_option maxRecDepth 100000
open Go.RowKit
set_option linter.unusedVariables false
set_option linter.unusedSimpArgs false
attribute [local go_sem] Later.cell Later.frozen setCell_twice
theorem Ag.right.tick_is {g : Ag} (h : g.right) : g.tick = if (Ls.tick g.l).2 = true then g.freed else ⟨g.bank, (Ls.tick g.l).1, g.ph, g.tx, g.la, g.stx, g.S, g.tk⟩ := by
  have hl : Ls.tick g.l = Ls.tickC g.l := by unfold Ls.tick; rw [Ls.counted_of_right h.2.2.2.2.1]
  rw [hl]
  unfold Ag.tick Ls.tickC
  rcases h.phases with ⟨h1, h2, h3, _⟩ | ⟨h1, h2, h3, _⟩ | ⟨h1, h2, h3, _⟩
  · rw [if_pos (by omega), if_neg (show ¬ 0 < g.l.l by omega)]
    rfl
  · rw [if_neg (by omega), if_pos (show 0 < g.l.l from h3)]
    by_cases h4 : g.l.l = 1
    · rw [if_pos h4, if_pos (show g.l.l - 1 = 0 by omega)]; rfl
    · rw [if_neg h4, if_neg (show ¬ g.l.l - 1 = 0 by omega)]; rfl
  · rw [if_pos (by omega), if_neg (show ¬ 0 < g.l.l by omega)]
    rfl
section
variable {A : Option Addr} {c base : Nat} {s : Stv} {g : Ag}
set_option maxHeartbeats 400000 in
theorem agboot_any (w : World) (h : AgIs A c s g w base) :
    Calls Try.prog 39 #[.agg (agC A c s g).toArray] w (AgE w g.boot) := by
  obtain ⟨X, hX⟩ : ∃ X, g.boot = X := ⟨_, rfl⟩
  rw [hX]
  have HX := Lib.hid hX
  clear hX
  have ko := Lib.hid (fun W (hW : Below w.heap.size w W) => agown_any W (h.to hW))
  have kf := Lib.hid (fun W (A1 : Option Addr) (c1 : Nat) (s1 : Stv) (B : Nat) (i1 : AgIs A1 c1 s1 g W B) => agfreed_any W i1)
  have HCO := Lib.hid h.C32
  clear h
  go_enter Try.func39, Try.ntmps39
  go_upto_region 1 with fail
  obtain ⟨w0, hw0⟩ : ∃ w_q_, w_q_ = (w.alloc (.cells (agC A c s g).toArray 35)).alloc (.cells z32 35) := ⟨_, rfl⟩
  rw [← hw0]
  have hin := in_ar w (agC A c s g)
  rw [← hw0] at hin
  obtain ⟨r1, r2, b0, z0⟩ := hin
  have R1 := Lib.hid r1
  have R2 := Lib.hid r2
  have B0 := Lib.hid b0
  clear hw0 r1 r2 b0
  go_wp2_with (refine wpList_load_var rfl 35 (.tmp 1) rfl (w.heap.size) rfl _ _ 32 R1.out Try.underlying35 rfl size_32 HCO.out ?_)
  with_reducible refine (ko.out _ B0.out).mono ?_
  rintro e1 w1 ⟨A1, c1, s1, rfl, i1, hb1⟩
  have I1 := Lib.hid i1
  have HC := Lib.hid i1.C32
  replace R1 := Lib.hid (R1.out.to hb1)
  replace R2 := Lib.hid (R2.out.to hb1)
  have B1 := Lib.hid (B0.out.trans (hb1.mono B0.out.size))
  clear hb1 i1 ko
  go_upto_region 2 with (refine wpList_store_var rfl 35 (.tmp 1) (.tmp 4) rfl (w.heap.size) _ (agC A1 c1 s1 g) 32 rfl rfl R1.out size_32 (by first | rfl | exact HCO.out) HC.out (agC_one _) ?_; intro w_2 r_2 k_2; have R_2 := Lib.hid r_2; have K_2 := Lib.hid k_2; clear r_2 k_2)
  replace R2 := Lib.hid (R2.out.only K_2.out (by omega))
  have I2 := Lib.hid (I1.out.only K_2.out (by omega))
  have B2 := Lib.hid (K_2.out.to B1.out (Nat.le_refl _))
  have kf2 := Lib.hid (kf.out _ _ _ _ _ I2.out)
  clear B1 I1 K_2 R1 B0 kf
  have d3 : w_2.cell? ⟨w.heap.size, 3, none⟩ = some (.int .u8 (g.ph : Int)) := R_2.out.cells 3
  by_cases h1 : g.ph = 1
  · have g1 : ((g.ph : Int) == 1) = true := by simp [h1]
    obtain rfl : g.freed = X := by rw [← HX.out]; unfold Ag.boot; rw [if_pos h1]
    clear h1
    go_wp2_with (refine wpList_load_var rfl 35 (.tmp 1) rfl (w.heap.size) rfl _ _ 32 R_2.out Try.underlying35 rfl size_32 HC.out ?_)
    with_reducible refine (kf2.out).mono ?_
    rintro e3 w3 ⟨rfl, hb3⟩
    have HF := Lib.hid I2.out.freed.C32
    have I3 := Lib.hid (I2.out.freed.to hb3)
    replace R2 := Lib.hid (R2.out.to hb3)
    have B3 := Lib.hid (B2.out.trans (hb3.mono B2.out.size))
    clear hb3 d3 kf2 I2 B2
    go_wp2_with (refine wpList_store_var rfl 35 (.tmp 2) (.tmp 9) rfl (w.heap.size + 1) _ (agC A1 c1 Stv.zero g.freed) 32 rfl rfl R2.out size_32 (by first | rfl | exact HCO.out) HF.out (agC_one _) ?_; intro w_5 r_5 k_5; have R_5 := Lib.hid r_5; have K_5 := Lib.hid k_5; clear r_5 k_5)
    exact bodyPost_ret (results_cell_row rfl _ _ (w.heap.size + 1) 35 _ (0, 0) _ rfl R_5.out Try.underlying35 rfl (by rw [size_32, List.size_toArray, HF.out])) rfl ⟨A1, c1, _, rfl, (I3.out.only K_5.out (by omega)).more (by omega), K_5.out.to B3.out (by omega)⟩
  · have g1 : ((g.ph : Int) == 1) = false := beq_eq_false_iff_ne.2 (by omega)
    obtain rfl : g = X := by rw [← HX.out]; unfold Ag.boot; rw [if_neg h1]
    clear h1
    go_upto_region 4 with fail
    clear d3 kf2
    go_wp2_with (first | (refine wpList_load_var rfl 35 (.tmp 1) rfl (w.heap.size) rfl _ _ 32 R_2.out Try.underlying35 rfl size_32 HC.out ?_) | (refine wpList_store_var rfl 35 (.tmp 2) (.tmp 10) rfl (w.heap.size + 1) _ (agC A1 c1 s1 g) 32 rfl rfl R2.out size_32 (by first | rfl | exact HCO.out) HC.out (agC_one _) ?_; intro w_5 r_5 k_5; have R_5 := Lib.hid r_5; have K_5 := Lib.hid k_5; clear r_5 k_5))
    exact bodyPost_ret (results_cell_row rfl _ _ (w.heap.size + 1) 35 _ (0, 0) _ rfl R_5.out Try.underlying35 rfl (by rw [size_32, List.size_toArray, HC.out])) rfl ⟨A1, c1, s1, rfl, (I2.out.only K_5.out (by omega)).more (by omega), K_5.out.to B2.out (by omega)⟩
set_option maxHeartbeats 400000 in
theorem agtick_any (w : World) (h : AgIs A c s g w base) (hr : g.right) :
    Calls Try.prog 37 #[.agg (agC A c s g).toArray] w (AgE w g.tick) := by
  rw [hr.tick_is]
  clear hr
  obtain ⟨L, hL⟩ : ∃ L, (Ls.tick g.l).1 = L := ⟨_, rfl⟩
  obtain ⟨b, hb⟩ : ∃ b, (Ls.tick g.l).2 = b := ⟨_, rfl⟩
  have kt := Lib.hid (fun W => tick_any g.l W h.fit)
  rw [hL, hb] at kt
  rw [hL, hb]
  have hLf : Ls.fit L := by
    rw [← hL]
    have hc := Ls.counted_fit h.fit
    unfold Ls.tick Ls.tickC
    split
    · split
      · exact ⟨by decide, by decide, by decide⟩
      · exact ⟨hc.1, by have := hc.2.1; simp only; omega, by have := hc.2.2; simp only; omega⟩
    · exact hc
  obtain ⟨X, hX⟩ : ∃ X : Ag, (if b = true then g.freed else ⟨g.bank, L, g.ph, g.tx, g.la, g.stx, g.S, g.tk⟩) = X := ⟨_, rfl⟩
  rw [hX]
  have HX := Lib.hid hX
  clear hX hL hb
  have HLF := Lib.hid hLf
  clear hLf
  have ko := Lib.hid (fun W (hW : Below w.heap.size w W) => agown_any W (h.to hW))
  have kf := Lib.hid (fun W (A1 : Option Addr) (c1 : Nat) (s1 : Stv) (B : Nat) (i1 : AgIs A1 c1 s1 g W B) => agfreed_any W i1)
  have HCO := Lib.hid h.C32
  clear h
  go_enter Try.func37, Try.ntmps37
  go_upto_region 1 with fail
  obtain ⟨w0, hw0⟩ : ∃ w_q_, w_q_ = (w.alloc (.cells (agC A c s g).toArray 35)).alloc (.cells z32 35) := ⟨_, rfl⟩
  rw [← hw0]
  have hin := in_ar w (agC A c s g)
  rw [← hw0] at hin
  obtain ⟨r1, r2, b0, z0⟩ := hin
  have R1 := Lib.hid r1
  have R2 := Lib.hid r2
  have B0 := Lib.hid b0
  clear hw0 r1 r2 b0
  go_wp2_with (refine wpList_load_var rfl 35 (.tmp 1) rfl (w.heap.size) rfl _ _ 32 R1.out Try.underlying35 rfl size_32 HCO.out ?_)
  with_reducible refine (ko.out _ B0.out).mono ?_
  rintro e1 w1 ⟨A1, c1, s1, rfl, i1, hb1⟩
  have I1 := Lib.hid i1
  have HC := Lib.hid i1.C32
  replace R1 := Lib.hid (R1.out.to hb1)
  replace R2 := Lib.hid (R2.out.to hb1)
  have B1 := Lib.hid (B0.out.trans (hb1.mono B0.out.size))
  have hz1 := hb1.size
  clear hb1 i1 ko
  go_upto_region 2 with (refine wpList_store_var rfl 35 (.tmp 1) (.tmp 6) rfl (w.heap.size) _ (agC A1 c1 s1 g) 32 rfl rfl R1.out size_32 (by first | rfl | exact HCO.out) HC.out (agC_one _) ?_; intro w_2 r_2 k_2; have R_2 := Lib.hid r_2; have K_2 := Lib.hid k_2; clear r_2 k_2)
  replace R2 := Lib.hid (R2.out.only K_2.out (by omega))
  have I2 := Lib.hid (I1.out.only K_2.out (by omega))
  have B2 := Lib.hid (K_2.out.to B1.out (Nat.le_refl _))
  have hz2 : w0.heap.size ≤ w_2.heap.size := by rw [K_2.out.size]; exact hz1
  clear B1 I1 K_2 R1 B0 hz1
  have dlt : w.heap.size < (w_2).heap.size := R_2.out.lt
  have dlu : w.heap.size < (w_2).heap.size + 1 := Nat.lt_succ_of_lt R_2.out.lt
  have d0 : (w_2).cell? ⟨w.heap.size, 0, none⟩ = some (.slice A1 g.bank.length c1) := R_2.out.cells 0
  have dz0 : (w_2).frozen? ⟨w.heap.size, 0, none⟩ = false := R_2.out.frozen 0
  have d1 : (w_2).cell? ⟨w.heap.size, 1, none⟩ = some (.int .u16 (g.l.o : Int)) := R_2.out.cells 1
  have dz1 : (w_2).frozen? ⟨w.heap.size, 1, none⟩ = false := R_2.out.frozen 1
  have d2 : (w_2).cell? ⟨w.heap.size, 2, none⟩ = some (.int .i64 g.l.l) := R_2.out.cells 2
  have dz2 : (w_2).frozen? ⟨w.heap.size, 2, none⟩ = false := R_2.out.frozen 2
  go_wp2_with fail
  with_reducible refine (kt.out _).mono ?_
  rintro e3 w3 ⟨rfl, hb3⟩
  replace R2 := Lib.hid (R2.out.to hb3)
  replace R_2 := Lib.hid (R_2.out.to hb3)
  have I3 := Lib.hid (I2.out.to hb3)
  have B3 := Lib.hid (B2.out.trans (hb3.mono B2.out.size))
  have hz3 : w0.heap.size ≤ w3.heap.size := Nat.le_trans hz2 hb3.size
  clear hb3 I2 B2 d0 d1 d2 dz0 dz1 dz2 hz2 dlt dlu
  go_upto_region 3 with fail
  obtain ⟨w4, hw4⟩ : ∃ w_q_, w_q_ = w3.alloc (.cells #[.int .u16 (L.o : Int), .int .i64 L.l] 26) := ⟨_, rfl⟩
  rw [← hw4]
  have hb4 : Below w3.heap.size w3 w4 := by rw [hw4]; exact bel_alloc (Below.refl _ _) _
  have RL := Lib.hid (show RowAt w4 w3.heap.size 26 [.int .u16 (L.o : Int), .int .i64 L.l] from hw4 ▸ RowAt.new w3 _ _)
  replace R2 := Lib.hid (R2.out.to hb4)
  replace R_2 := Lib.hid (R_2.out.to hb4)
  have I4 := Lib.hid (I3.out.to hb4)
  have B4 := Lib.hid (B3.out.trans (hb4.mono B3.out.size))
  have hz4 : w0.heap.size ≤ w4.heap.size := Nat.le_trans hz3 hb4.size
  have kf2 := Lib.hid (kf.out _ _ _ _ _ I4.out)
  clear hw4 hb4 I3 B3 kf
  cases b
  · obtain rfl : (⟨g.bank, L, g.ph, g.tx, g.la, g.stx, g.S, g.tk⟩ : Ag) = X := by rw [← HX.out]; rfl
    clear kf2
    have elt : w3.heap.size < (w4).heap.size := RL.out.lt
    have elu : w3.heap.size < (w4).heap.size + 1 := Nat.lt_succ_of_lt RL.out.lt
    have e0 : (w4).cell? ⟨w3.heap.size, 0, none⟩ = some (.int .u16 (L.o : Int)) := RL.out.cells 0
    have ez0 : (w4).frozen? ⟨w3.heap.size, 0, none⟩ = false := RL.out.frozen 0
    have e1 : (w4).cell? ⟨w3.heap.size, 1, none⟩ = some (.int .i64 L.l) := RL.out.cells 1
    have ez1 : (w4).frozen? ⟨w3.heap.size, 1, none⟩ = false := RL.out.frozen 1
    have dlt : w.heap.size < (w4).heap.size := R_2.out.lt
    have dlu : w.heap.size < (w4).heap.size + 1 := Nat.lt_succ_of_lt R_2.out.lt
    have d0 : (w4).cell? ⟨w.heap.size, 0, none⟩ = some (.slice A1 g.bank.length c1) := R_2.out.cells 0
    have dz0 : (w4).frozen? ⟨w.heap.size, 0, none⟩ = false := R_2.out.frozen 0
    have d1 : (w4).cell? ⟨w.heap.size, 1, none⟩ = some (.int .u16 (g.l.o : Int)) := R_2.out.cells 1
    have dz1 : (w4).frozen? ⟨w.heap.size, 1, none⟩ = false := R_2.out.frozen 1
    have d2 : (w4).cell? ⟨w.heap.size, 2, none⟩ = some (.int .i64 g.l.l) := R_2.out.cells 2
    have dz2 : (w4).frozen? ⟨w.heap.size, 2, none⟩ = false := R_2.out.frozen 2
    go_upto_region 6 with fail
    obtain ⟨w5, hw5⟩ : ∃ w_q_, w_q_ = (w4.setCell ⟨w.heap.size, 1, none⟩ (.int .u16 (L.o : Int))).setCell ⟨w.heap.size, 2, none⟩ (.int .i64 L.l) := ⟨_, rfl⟩
    rw [← hw5]
    have k5 : Only w.heap.size w4 w5 := by rw [hw5]; exact ((Only.refl _ _).set _).set _
    have R3 : Hid (RowAt w5 w.heap.size 35 (agC A1 c1 s1 ⟨g.bank, L, g.ph, g.tx, g.la, g.stx, g.S, g.tk⟩)) := Lib.hid (by rw [hw5]; exact (R_2.out.set 1 _).set 2 _)
    have B5 := Lib.hid (k5.to B4.out (Nat.le_refl _))
    replace R2 := Lib.hid (R2.out.only k5 (by omega))
    have I5 := Lib.hid ((I4.out.only k5 (by omega)).with L g.ph g.tx g.la HLF.out I4.out.ph I4.out.tx I4.out.la)
    have HC5 := Lib.hid I5.out.C32
    have hz5 : w0.heap.size ≤ w5.heap.size := by rw [k5.size]; exact hz4
    clear hw5 k5 R_2 RL I4 B4 d0 d1 d2 dz0 dz1 dz2 e0 e1 ez0 ez1 dlt dlu elt elu
    go_wp2_with (first | (refine wpList_load_var rfl 35 (.tmp 1) rfl (w.heap.size) rfl _ _ 32 R3.out Try.underlying35 rfl size_32 HC5.out ?_) | (refine wpList_store_var rfl 35 (.tmp 2) (.tmp 18) rfl (w.heap.size + 1) _ (agC A1 c1 s1 ⟨g.bank, L, g.ph, g.tx, g.la, g.stx, g.S, g.tk⟩) 32 rfl rfl R2.out size_32 (by first | rfl | exact HCO.out) HC5.out (agC_one _) ?_; intro w_5 r_5 k_5; have R_5 := Lib.hid r_5; have K_5 := Lib.hid k_5; clear r_5 k_5))
    exact bodyPost_ret (results_cell_row rfl _ _ (w.heap.size + 1) 35 _ (0, 0) _ rfl R_5.out Try.underlying35 rfl (by rw [size_32, List.size_toArray, HC5.out])) rfl ⟨A1, c1, s1, rfl, (I5.out.only K_5.out (by omega)).more (by omega), K_5.out.to B5.out (by omega)⟩
  · obtain rfl : g.freed = X := by rw [← HX.out]; rfl
    go_wp2_with (refine wpList_load_var rfl 35 (.tmp 1) rfl (w.heap.size) rfl _ _ 32 R_2.out Try.underlying35 rfl size_32 HC.out ?_)
    with_reducible refine (kf2.out).mono ?_
    rintro e5 w5 ⟨rfl, hb5⟩
    have HF := Lib.hid I4.out.freed.C32
    have I5 := Lib.hid (I4.out.freed.to hb5)
    replace R2 := Lib.hid (R2.out.to hb5)
    have B5 := Lib.hid (B4.out.trans (hb5.mono B4.out.size))
    clear hb5 kf2 I4 B4 RL R_2
    go_wp2_with (refine wpList_store_var rfl 35 (.tmp 2) (.tmp 15) rfl (w.heap.size + 1) _ (agC A1 c1 Stv.zero g.freed) 32 rfl rfl R2.out size_32 (by first | rfl | exact HCO.out) HF.out (agC_one _) ?_; intro w_5 r_5 k_5; have R_5 := Lib.hid r_5; have K_5 := Lib.hid k_5; clear r_5 k_5)
    exact bodyPost_ret (results_cell_row rfl _ _ (w.heap.size + 1) 35 _ (0, 0) _ rfl R_5.out Try.underlying35 rfl (by rw [size_32, List.size_toArray, HF.out])) rfl ⟨A1, c1, _, rfl, (I5.out.only K_5.out (by omega)).more (by omega), K_5.out.to B5.out (by omega)⟩
end
end Go.Proofs.Ytajbghjjpebndaa
namespace Go.Proofs.Ytajbghjjpebndaa
set_option maxRecDepth 100000
open Go.RowKit
set_option linter.unusedVariables false
/-- block g is a map of these entries -/
def MapIs (w : World) (g : Nat) (es : Array MapEntry) (clock : Nat) : Prop := w.heap[g]? = some (.map es clock)
def met (l : List Nat) : Array MapEntry := (l.mapIdx fun i (x : Nat) => { key := .int .i64 (x : Int), val := .int .i64 1, born := i : MapEntry }).toArray
theorem met_snoc (l : List Nat) (x : Nat) : met (l ++ [x]) = (met l).push { key := .int .i64 (x : Int), val := .int .i64 1, born := l.length } := by
  unfold met
  rw [List.mapIdx_concat]
  simp
theorem met_keys {l : List Nat} {e : MapEntry} (h : e ∈ (met l).toList) : ∃ x ∈ l, e.key = .int .i64 (x : Int) ∧ e.val = .int .i64 1 := by
  unfold met at h
  obtain ⟨i, hi, rfl⟩ := List.mem_mapIdx.1 h
  exact ⟨l[i], List.getElem_mem hi, rfl, rfl⟩
theorem met_has {l : List Nat} {x : Nat} (h : x ∈ l) : ∃ e ∈ (met l).toList, e.key = .int .i64 (x : Int) := by
  obtain ⟨i, hi, rfl⟩ := List.getElem_of_mem h
  exact ⟨_, by unfold met; exact List.mem_mapIdx.2 ⟨i, hi, rfl⟩, rfl⟩
theorem met_no {l : List Nat} {x : Nat} (h : x ∉ l) : Instr.findNow (.int .i64) (.int .i64 (x : Int)) (met l).toList 0 = some none := by
  rcases MapKept.findNow_spec (d := .int .i64) (k := .int .i64 (x : Int)) rfl (met l).toList 0 (fun e he => by obtain ⟨y, _, hk, _⟩ := met_keys he; rw [hk]; rfl) with ⟨h1, _⟩ | ⟨j, e, h1, h2, h3⟩
  · exact h1
  · obtain ⟨y, hy, hk, _⟩ := met_keys (List.mem_of_getElem? h2)
    rw [h3] at hk
    obtain rfl : x = y := by
      have hk2 : (x : Int) = (y : Int) := by simpa using hk
      omega
    exact absurd hy h
theorem met_yes {l : List Nat} {x : Nat} (h : x ∈ l) : ∃ i, Instr.findNow (.int .i64) (.int .i64 (x : Int)) (met l).toList 0 = some (some (i, .int .i64 1)) := by
  rcases MapKept.findNow_spec (d := .int .i64) (k := .int .i64 (x : Int)) rfl (met l).toList 0 (fun e he => by obtain ⟨y, _, hk, _⟩ := met_keys he; rw [hk]; rfl) with ⟨_, h1⟩ | ⟨j, e, h1, h2, h3⟩
  · obtain ⟨e, he, hk⟩ := met_has h
    exact absurd hk (h1 e he)
  · obtain ⟨y, _, _, hv⟩ := met_keys (List.mem_of_getElem? h2)
    rw [hv] at h1
    exact ⟨_, h1⟩
section
variable {P : Program} {w w' : World} {g clock : Nat} {es : Array MapEntry}
theorem MapIs.lt (h : MapIs w g es clock) : g < w.heap.size := (Array.getElem?_eq_some_iff.1 h).1
theorem MapIs.new (w : World) (n : Nat) (hn : n = w.heap.size) : MapIs (w.alloc (.map #[] 0)) n #[] 0 := by subst hn; exact heap_alloc_new w _
theorem MapIs.to (h : MapIs w g es clock) (hb : Below w.heap.size w w') : MapIs w' g es clock := (hb.block g h.lt).trans h
theorem run_update_key (t kt et : TypeId) (d : TypeDesc) (key v : Value) (ht : P.underlying t = some (.map kt et)) (hk : P.underlying kt = some d) (hkey : MapKept.IsKey d key) (hf : Instr.findNow d key es.toList 0 = some none) (hb : MapIs w g es clock) :
    (Instr.mapUpdate t (.map (some g)) key v).run P w = .ok () { w with heap := w.heap.setIfInBounds g (.map (es.push { key, val := v, born := clock }) (clock + 1)) } := by
  have hc : (Instr.checkKey false 10000 kt key).run P w = .ok () w := MapKept.run_checkKey hk hkey false 9999
  simp [Instr.mapUpdate, run_underlying ht, MapKept.run_getObj_map hb, hc, MapKept.run_findKey hk hf, MapKept.run_setObj_map _ hb, Result.andThen]
theorem wpList_update {ops : Array Oper} {rest : List Oper} {o : Oper} {a : Act} {Q : Exit → Act → World → Prop} (hgd : o.guard = none) (t : TypeId) (m x y : Operand) (ho : o.op = .mapUpdate t m x y)
    (kt et : TypeId) (d : TypeDesc) (g : Nat) (key v : Value) (ht : P.underlying t = some (.map kt et)) (hk : P.underlying kt = some d) (hm : a.eval m = .map (some g)) (hx : a.eval x = key) (hy : a.eval y = v) (hb : MapIs w g es clock) (hkey : MapKept.IsKey d key) (hf : Instr.findNow d key es.toList 0 = some none)
    (h : ∀ w', MapIs w' g (es.push { key, val := v, born := clock }) (clock + 1) → Only g w w' → wpList P ops Q rest (a.put o.dst undef) w') : wpList P ops Q (o :: rest) a w := by
  refine wpList_plain hgd fun K' hK' => ?_
  have hrun := run_update_key (P := P) t kt et d key v ht hk hkey hf hb
  unfold Oper.wp
  simp [execOp, ho, hm, hx, hy, hrun, Result.andThen]
  refine hK' _ _ (h _ ?_ ⟨rfl, rfl, rfl, by simp, fun k hk => ?_⟩)
  · show (w.heap.setIfInBounds g _)[g]? = _
    simp [hb.lt]
  · show (w.heap.setIfInBounds g _)[k]? = _
    rw [Array.getElem?_setIfInBounds]
    simp [Ne.symm hk]
theorem run_look0 (t kt et : TypeId) (d : TypeDesc) (key : Value) (ht : P.underlying t = some (.map kt et)) (hk : P.underlying kt = some d) (hkey : MapKept.IsKey d key) (hb : MapIs w g es clock)
    (v : Value) (hf : (∃ i, Instr.findNow d key es.toList 0 = some (some (i, v))) ∨ (Instr.findNow d key es.toList 0 = some none ∧ (zeroValue et).run P w = .ok v w)) :
    (Instr.lookup t (.map (some g)) key false).run P w = .ok v w := by
  have hc : (Instr.checkKey es.isEmpty 10000 kt key).run P w = .ok () w := MapKept.run_checkKey hk hkey _ 9999
  rcases hf with ⟨i, hf⟩ | ⟨hf, hz⟩
  · simp [Instr.lookup, run_underlying ht, MapKept.run_getObj_map hb, hc, MapKept.run_findKey hk hf, Result.andThen]
  · simp [Instr.lookup, run_underlying ht, MapKept.run_getObj_map hb, hc, MapKept.run_findKey hk hf, hz, Result.andThen]
theorem wpList_look0 {ops : Array Oper} {rest : List Oper} {o : Oper} {a : Act} {Q : Exit → Act → World → Prop} (hgd : o.guard = none) (t : TypeId) (m x : Operand) (ho : o.op = .lookup t m x false)
    (g : Nat) (key v : Value) (hm : a.eval m = .map (some g)) (hx : a.eval x = key) (hrun : (Instr.lookup t (.map (some g)) key false).run P w = .ok v w)
    (h : wpList P ops Q rest (a.put o.dst v) w) : wpList P ops Q (o :: rest) a w := by
  refine wpList_plain hgd fun K' hK' => ?_
  unfold Oper.wp
  simp [execOp, ho, hm, hx, hrun, Result.andThen]
  exact hK' _ _ h
end
theorem zero_int (w : World) : (zeroValue 3).run Try.prog w = .ok (.int .i64 0) w := by kernel_rfl
end Go.Proofs.Ytajbghjjpebndaa
namespace Go.Proofs.Ytajbghjjpebndaa
set_option maxRecDepth 100000
open Go.RowKit
set_option linter.unusedVariables false
set_option linter.unusedSimpArgs false
attribute [local go_sem] Later.cell Later.frozen setCell_twice
section
variable {P : Program} {w w' : World} {g clock : Nat} {es : Array MapEntry}
theorem wpList_insert {ops : Array Oper} {rest : List Oper} {o : Oper} {a : Act} {Q : Exit → Act → World → Prop} (hgd : o.guard = none) (t : TypeId) (m x y : Operand) (ho : o.op = .insert t m x y)
    (kt et : TypeId) (d : TypeDesc) (g : Nat) (key v : Value) (ht : P.underlying t = some (.map kt et)) (hk : P.underlying kt = some d) (hm : a.eval m = .map (some g)) (hx : a.eval x = key) (hy : a.eval y = v) (hb : MapIs w g es clock) (hkey : MapKept.IsKey d key) (hf : Instr.findNow d key es.toList 0 = some none)
    (h : ∀ w', MapIs w' g (es.push { key, val := v, born := clock }) (clock + 1) → Only g w w' → wpList P ops Q rest (a.put o.dst undef) w') : wpList P ops Q (o :: rest) a w := by
  refine wpList_plain hgd fun K' hK' => ?_
  have hrun := run_update_key (P := P) t kt et d key v ht hk hkey hf hb
  unfold Oper.wp
  simp [execOp, ho, hm, hx, hy, hrun, Result.andThen]
  refine hK' _ _ (h _ ?_ ⟨rfl, rfl, rfl, by simp, fun k hk => ?_⟩)
  · show (w.heap.setIfInBounds g _)[g]? = _
    simp [hb.lt]
  · show (w.heap.setIfInBounds g _)[k]? = _
    rw [Array.getElem?_setIfInBounds]
    simp [Ne.symm hk]
theorem run_look_ok (t kt et : TypeId) (d : TypeDesc) (key : Value) (ht : P.underlying t = some (.map kt et)) (hk : P.underlying kt = some d) (hkey : MapKept.IsKey d key) (hb : MapIs w g es clock)
    (v : Value) (ok : Bool) (hf : (∃ i, Instr.findNow d key es.toList 0 = some (some (i, v)) ∧ ok = true) ∨ (Instr.findNow d key es.toList 0 = some none ∧ (zeroValue et).run P w = .ok v w ∧ ok = false)) :
    (Instr.lookup t (.map (some g)) key true).run P w = .ok (.tuple #[v, .bool ok]) w := by
  have hc : (Instr.checkKey es.isEmpty 10000 kt key).run P w = .ok () w := MapKept.run_checkKey hk hkey _ 9999
  rcases hf with ⟨i, hf, rfl⟩ | ⟨hf, hz, rfl⟩
  · simp [Instr.lookup, run_underlying ht, MapKept.run_getObj_map hb, hc, MapKept.run_findKey hk hf, Result.andThen]
  · simp [Instr.lookup, run_underlying ht, MapKept.run_getObj_map hb, hc, MapKept.run_findKey hk hf, hz, Result.andThen]
end
abbrev fnV (f : FuncId) : Value := .func (.func f) #[] #[]
abbrev ef1 : Value := .agg #[fnV 87, fnV 88]
abbrev ef2 : Value := .agg #[fnV 89, fnV 90]
abbrev ef3 : Value := .agg #[fnV 91, fnV 92]
abbrev ef4 : Value := .agg #[fnV 93, fnV 94]
abbrev effL : Array MapEntry := (((#[].push { key := .int .u8 1, val := ef1, born := 0 }).push { key := .int .u8 2, val := ef2, born := 0 + 1 }).push { key := .int .u8 3, val := ef3, born := 0 + 1 + 1 }).push { key := .int .u8 4, val := ef4, born := 0 + 1 + 1 + 1 }
set_option maxHeartbeats 400000 in
theorem effects_any (w : World) : Calls Try.prog 66 #[] w fun e w' => e = .returned (.map (some w.heap.size)) ∧ MapIs w' w.heap.size effL 4 ∧ Below w.heap.size w w' := by
  have hmm := @run_makeMap Try.prog
  go_enter Try.func66, Try.ntmps66
  have M0 := Lib.hid (MapIs.new w w.heap.size rfl)
  go_wp2_with (first | (refine wpList_insert rfl 93 (.tmp 1) (.const (.int .u8 1)) (.tmp 2) rfl 5 91 (.int .u8) w.heap.size (.int .u8 1) ef1 Try.underlying93 Try.underlying5 rfl rfl rfl M0.out rfl rfl ?_; intro w1 m1 k1; have M1 := Lib.hid m1; have K1 := Lib.hid ((bel_alloc (Below.refl w.heap.size w) (.map #[] 0)).trans (k1.below (Nat.le_refl _))); clear m1 k1) | (refine wpList_insert rfl 93 (.tmp 1) (.const (.int .u8 2)) (.tmp 3) rfl 5 91 (.int .u8) w.heap.size (.int .u8 2) ef2 Try.underlying93 Try.underlying5 rfl rfl rfl M1.out rfl rfl ?_; intro w2 m2 k2; have M2 := Lib.hid m2; have K2 := Lib.hid (K1.out.trans (k2.below (Nat.le_refl _))); clear m2 k2) | (refine wpList_insert rfl 93 (.tmp 1) (.const (.int .u8 3)) (.tmp 4) rfl 5 91 (.int .u8) w.heap.size (.int .u8 3) ef3 Try.underlying93 Try.underlying5 rfl rfl rfl M2.out rfl rfl ?_; intro w3 m3 k3; have M3 := Lib.hid m3; have K3 := Lib.hid (K2.out.trans (k3.below (Nat.le_refl _))); clear m3 k3) | (refine wpList_insert rfl 93 (.tmp 1) (.const (.int .u8 4)) (.tmp 5) rfl 5 91 (.int .u8) w.heap.size (.int .u8 4) ef4 Try.underlying93 Try.underlying5 rfl rfl rfl M3.out rfl rfl ?_; intro w4 m4 k4; have M4 := Lib.hid m4; have K4 := Lib.hid (K3.out.trans (k4.below (Nat.le_refl _))); clear m4 k4))
  go_ret
  exact ⟨rfl, M4.out, K4.out⟩
end Go.Proofs.Ytajbghjjpebndaa
