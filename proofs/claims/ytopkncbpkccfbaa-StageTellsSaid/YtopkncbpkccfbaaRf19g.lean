/- The walk of the reference of layer 19: Put. -/
import Derived.Test.YtopkncbpkccfbaaRf19f
namespace Go.Proofs.Ytopkncbpkccfbaa
open Go.RowKit
set_option linter.unusedVariables false
set_option linter.unusedSimpArgs false
attribute [local go_sem] Later.cell Later.frozen setCell_twice
set_option maxRecDepth 100000 in
set_option maxHeartbeats 400000 in
theorem rput_bad (C : List Value) (n a : Int) (A : Option Addr) (c m : Nat) (w : World) (h : n < 0 ∨ 7 < n) :
    Calls Try.prog 29 #[.agg C.toArray, .int .i64 n, .agg #[.int .i64 a, .slice A m c]] w fun e w' => e = .returned (.tuple #[.agg z25, .int .i64 2]) ∧ Below w.heap.size w w' := by
  have HROW := Lib.hid (put_row w C #[.int .i64 a, .slice A m c])
  by_cases h1 : n < 0
  · clear h
    go_enter Try.func29, Try.ntmps29
    go_wp2_with (refine wpList_store_row rfl 42 (.tmp 6) (.tmp 15) rfl (w.heap.size + 1 + 1) z25 rfl rfl 42 z25 HROW.out size_z25 rfl one_z25 ?_)
    exact bodyPost_ret (results_cell_tmp rfl _ _ (w.heap.size + 1 + 1) 42 z25 (0, 0) _ rfl (RowAt.row HROW.out Stv.zero.C) Try.underlying42 rfl size_z25) rfl ⟨rfl, (below_setRow (bel_alloc (bel_alloc (bel_alloc (Below.refl _ _) _) _) _) (by omega) _)⟩
  · have h2 : 7 < n := by omega
    have g1 : decide (n < 0) = false := decide_eq_false h1
    clear h h1
    go_enter Try.func29, Try.ntmps29
    go_wp2_with (refine wpList_store_row rfl 42 (.tmp 6) (.tmp 15) rfl (w.heap.size + 1 + 1) z25 rfl rfl 42 z25 HROW.out size_z25 rfl one_z25 ?_)
    exact bodyPost_ret (results_cell_tmp rfl _ _ (w.heap.size + 1 + 1) 42 z25 (0, 0) _ rfl (RowAt.row HROW.out Stv.zero.C) Try.underlying42 rfl size_z25) rfl ⟨rfl, (below_setRow (bel_alloc (bel_alloc (bel_alloc (Below.refl _ _) _) _) _) (by omega) _)⟩
set_option maxRecDepth 100000 in
set_option maxHeartbeats 400000 in
theorem rput_nofit (C : List Value) (n a : Int) (A : Option Addr) (c m : Nat) (w : World) (h : 0 ≤ n ∧ n ≤ 7) (lo : -9223372036854775808 ≤ a) (hi : a ≤ 9223372036854775807) (hm : m ≤ 9223372036854775807) (hf : Bk.fits a m = false) :
    Calls Try.prog 29 #[.agg C.toArray, .int .i64 n, .agg #[.int .i64 a, .slice A m c]] w fun e w' => e = .returned (.tuple #[.agg z25, .int .i64 20]) ∧ Below w.heap.size w w' := by
  have kf := Lib.hid (fun W => rfits_any a m c A false W lo hi hm hf)
  have HROW := Lib.hid (put_row w C #[.int .i64 a, .slice A m c])
  have g1 : decide (n < 0) = false := decide_eq_false (by omega)
  have g2 : decide (7 < n) = false := decide_eq_false (by omega)
  clear h hf
  go_enter Try.func29, Try.ntmps29
  go_wp2_with fail
  with_reducible refine (kf.out _).mono ?_
  rintro e2 w2 ⟨rfl, hb2⟩
  have HR2 := Lib.hid (HROW.out.to hb2)
  have hbw : Below w.heap.size w w2 := (bel_alloc (bel_alloc (bel_alloc (Below.refl _ _) _) _) _).trans (hb2.mono (by simp; omega))
  clear hb2
  go_wp2_with (refine wpList_store_row rfl 42 (.tmp 6) (.tmp 19) rfl (w.heap.size + 1 + 1) z25 rfl rfl 42 z25 HR2.out size_z25 rfl one_z25 ?_)
  exact bodyPost_ret (results_cell_tmp rfl _ _ (w.heap.size + 1 + 1) 42 z25 (0, 0) _ rfl (RowAt.row HR2.out Stv.zero.C) Try.underlying42 rfl size_z25) rfl ⟨rfl, (below_setRow hbw (by omega) _)⟩
set_option maxRecDepth 100000 in
set_option maxHeartbeats 1000000 in
theorem rput_S {s : Stv} {base tx : Nat} {S : SS} (k : Nat) (x : Blk) (w : World) (hs : s.Is w base tx S) (hx : x.Ok w w.heap.size) (hk : k ≤ 7) (hf : Bk.fits x.a x.ws.length = true) :
    Calls Try.prog 29 #[.agg s.C.toArray, .int .i64 (k : Int), .agg #[.int .i64 x.a, .slice x.A x.ws.length x.c]] w (PutS w tx (S.set k (some x.pr))) := by
  obtain ⟨i0, hif, hz0, hz1, hz2⟩ := info_parts info_w16
  have kf := Lib.hid (fun W => rfits_any x.a x.ws.length x.c x.A true W hx.lo hx.hi (Nat.le_trans hx.ln hx.cap) hf)
  have R3 := Lib.hid (put_row0 w s.C #[.int .i64 x.a, .slice x.A x.ws.length x.c])
  have R5 := Lib.hid (put_row1 w s.C [.int .i64 x.a, .slice x.A x.ws.length x.c])
  have R6 := Lib.hid (put_row w s.C #[.int .i64 x.a, .slice x.A x.ws.length x.c])
  have IS := Lib.hid hs
  have HC := Lib.hid hs.C25
  have HX := Lib.hid hx
  have hxl := (Bk.fits_iff.1 hf).1
  have hk8 : k < 8 := by omega
  have g1 : decide ((k : Int) < 0) = false := decide_eq_false (by omega)
  have g2 : decide ((7 : Int) < (k : Int)) = false := decide_eq_false (by omega)
  have hltI : (k : Int) < 8 := by omega
  have h0I : (0 : Int) ≤ (k : Int) := by omega
  clear hs hx hf
  go_enter Try.func29, Try.ntmps29
  go_wp2_with fail
  with_reducible refine (kf.out _).mono ?_
  rintro e_ w1 ⟨rfl, hb1⟩
  have hz1' : w.heap.size + 3 ≤ w1.heap.size := by have := hb1.size; simp at this; omega
  replace R3 := Lib.hid (R3.out.to hb1)
  replace R5 := Lib.hid (R5.out.to hb1)
  replace R6 := Lib.hid (R6.out.to hb1)
  have BW := Lib.hid ((bel_alloc (bel_alloc (bel_alloc (Below.refl _ _) _) _) _).trans (hb1.mono (by simp; omega)) : Below w.heap.size w w1)
  have kc := Lib.hid (rcopy_S w1 (IS.out.to BW.out))
  clear hb1 kf
  go_wp2_with (refine wpList_load_var rfl 42 (.tmp 3) rfl w.heap.size rfl s.C _ 25 R3.out Try.underlying42 rfl size_25 HC.out ?_)
  with_reducible refine (kc.out).mono ?_
  rintro e_ w2 ⟨so, rfl, hso, hb2⟩
  have hz2' := hb2.size
  replace R5 := Lib.hid (R5.out.to hb2)
  replace R6 := Lib.hid (R6.out.to hb2)
  replace BW := Lib.hid (BW.out.trans (hb2.mono (by omega)))
  have HIO := Lib.hid hso
  have HCO := Lib.hid hso.C25
  obtain ⟨b, hbk⟩ : ∃ b, so.bs[k]? = some b := ⟨_, List.getElem?_eq_getElem (by rw [hso.ok.lb]; exact hk8)⟩
  have HBK := Lib.hid (Stv.C_block hso.ok.lh hbk)
  have HHK := Lib.hid (Stv.C_have (getD_hs (s := so) (k := k) (by rw [hso.ok.lh]; exact hk8)))
  have n1 : ¬ 1 + k = 9 + k * 2 := by omega
  have n2 : ¬ 1 + k = 9 + k * 2 + 1 := by omega
  have n3 : ¬ 9 + k * 2 = 9 + k * 2 + 1 := by omega
  have p0 : w2.cell? ⟨w.heap.size + 1, 0, none⟩ = some (.int .i64 x.a) := R5.out.cells 0
  clear hb2 hso kc R3 hbk
  go_wp2_with (refine wpList_store_var rfl 42 (.tmp 8) (.tmp 21) rfl w2.heap.size Stv.zero.C so.C 25 rfl rfl (heap_alloc_new w2 _) size_25 rfl HCO.out (Stv.C_one so) ?_; intro w3 r8 k3; have R8 := Lib.hid r8; have K3 := Lib.hid k3; have e1 := (r8.cells (1 + k)).trans HHK.out; have e2 := (r8.cells (9 + k * 2)).trans HBK.out.1; have e3 := (r8.cells (9 + k * 2 + 1)).trans HBK.out.2; have f1 := r8.frozen (1 + k); have f2 := r8.frozen (9 + k * 2); have f3 := r8.frozen (9 + k * 2 + 1); have q0 : w3.cell? ⟨w.heap.size + 1, 0, none⟩ = some (.int .i64 x.a) := ((R5.out.alloc _).only k3 (by omega)).cells 0; clear r8 k3)
  obtain ⟨w5, hw5⟩ : ∃ w5, w5 = ((w3.setCell ⟨w2.heap.size, 1 + k, none⟩ (.bool true)).setCell ⟨w2.heap.size, 9 + k * 2, none⟩ (.int .i64 x.a)).setCell ⟨w2.heap.size, 9 + k * 2 + 1, none⟩ (.slice none 0 0) := ⟨_, rfl⟩
  rw [← hw5]
  have hb3 : Below w2.heap.size w2 w3 := K3.out.to (bel_alloc (Below.refl _ _) _) (Nat.le_refl _)
  have hz3 : w2.heap.size < w3.heap.size := by rw [K3.out.size]; simp
  have k5 : Only w2.heap.size w3 w5 := by rw [hw5]; exact (((Only.refl _ _).set _).set _).set _
  have hz5 : w2.heap.size < w5.heap.size := by rw [k5.size]; exact hz3
  have hb5 : Below w2.heap.size w2 w5 := hb3.trans (k5.below (Nat.le_refl _))
  have r8 : RowAt w5 w2.heap.size 42 (((so.C.set (1 + k) (.bool true)).set (9 + k * 2) (.int .i64 x.a)).set (9 + k * 2 + 1) (.slice none 0 0)) := by rw [hw5]; exact ((R8.out.set _ _).set _ _).set _ _
  have hlen : 9 + k * 2 + 1 < ((so.C.set (1 + k) (.bool true)).set (9 + k * 2) (.int .i64 x.a)).length := by simp [HCO.out]; omega
  have q3 : w5.cell? ⟨w2.heap.size, 9 + k * 2 + 1, none⟩ = some (.slice none 0 0) := (r8.cells _).trans (List.getElem?_set_self hlen)
  have g3 : w5.frozen? ⟨w2.heap.size, 9 + k * 2 + 1, none⟩ = false := r8.frozen _
  have hw1 : w.heap.size + 1 < w5.heap.size := by omega
  have q1 : w5.cell? ⟨w.heap.size + 1, 1, none⟩ = some (.slice x.A x.ws.length x.c) := (R5.out.to hb5).cells 1
  have B5 := Lib.hid (BW.out.trans (hb5.mono (by omega)))
  have SQ := Lib.hid (HX.out.to B5.out).sq
  have NL := Lib.hid HX.out.nl
  have R85 := Lib.hid r8
  have R65 := Lib.hid (R6.out.to hb5)
  have IO5 := Lib.hid (HIO.out.to hb5)
  have HB5 := Lib.hid hb5
  clear hw5 hb3 k5 hb5 r8 hlen e1 e2 e3 f1 f2 f3 q0 K3 R8 R5 R6 hz3
  go_region_law (first | (refine step_append_sq (f := u16w) _ (by rfl) (.tmp 36) (.tmp 38) 24 (by rfl) (fun _ => rfl) w5.heap.size 22 i0 _ _ Try.underlying24 hif hz0 rfl hz1 hz2 (by decide) (.slice none 0 0) [] (by rfl) (World.ownsRow_nil _ _ _ _) w5.heap.size x.A x.ws x.c x.ws.length rfl (by rfl) SQ.out NL.out (by simp; omega) (Nat.le_refl _) ?_; intro A2 c2 W2 hown2 hg2 hb2; rw [List.nil_append] at hown2; have r3w := R85.out.drew.grown hg2 (by simp [Value.ownBlock]); have q3w : W2.cell? ⟨w2.heap.size, 9 + k * 2 + 1, none⟩ = some (.slice none 0 0) := (hb2.cell (p := ⟨w2.heap.size, 9 + k * 2 + 1, none⟩) hz5).trans q3; have q1w : W2.cell? ⟨w.heap.size + 1, 1, none⟩ = some (.slice x.A x.ws.length x.c) := (hb2.cell (p := ⟨w.heap.size + 1, 1, none⟩) hw1).trans q1; have g3w : W2.frozen? ⟨w2.heap.size, 9 + k * 2 + 1, none⟩ = false := r3w.frozen _; have R3W := Lib.hid r3w; clear r3w))
  all_goals
    have hbw : Below w5.heap.size w5 W2 := (Below.refl _ _).drew.trans hb2
    have BW2 := Lib.hid hbw
    have O2 := Lib.hid hown2
    have hrow := R3W.out.set (9 + k * 2 + 1) (.slice A2 x.ws.length c2)
    have hC : ((((so.C.set (1 + k) (.bool true)).set (9 + k * 2) (.int .i64 x.a)).set (9 + k * 2 + 1) (.slice none 0 0)).set (9 + k * 2 + 1) (.slice A2 x.ws.length c2)) = (⟨so.tx, so.hs.set k true, so.bs.set k ⟨x.a, x.ws, A2, c2⟩⟩ : Stv).C := by
      rw [List.set_set, Stv.C_have_set true (by rw [IO5.out.ok.lh]; exact hk8), Stv.C_block_set (s := ⟨so.tx, so.hs.set k true, so.bs⟩) (by simp [IO5.out.ok.lh]) ⟨x.a, x.ws, A2, c2⟩ (by rw [IO5.out.ok.lb]; exact hk8)]
    rw [hC] at hrow
    have HROW := Lib.hid hrow
    have k7 : ∀ v, Only w2.heap.size W2 (W2.setCell ⟨w2.heap.size, 9 + k * 2 + 1, none⟩ v) := fun v => (Only.refl _ _).set v
    have hob : (Blk.mk x.a x.ws A2 c2).Ok W2 W2.heap.size := Blk.Ok.of_own rfl O2.out HX.out.u HX.out.lo HX.out.hi
    have hnew : ∀ p, A2 = some p → w2.heap.size + 1 ≤ p.block := fun p hp => by have := (O2.out.lt p.block (by rw [hp]; rfl)).1; omega
    have hb25 : Below w2.heap.size w2 (W2.setCell ⟨w2.heap.size, 9 + k * 2 + 1, none⟩ (.slice A2 x.ws.length c2)) := (k7 _).to (HB5.out.trans (hbw.mono (by omega))) (Nat.le_refl _)
    have his := (HIO.out.to hb25).put1 hk8 (hob.only (k7 (.slice A2 x.ws.length c2)) (fun p hp e => by have := hnew p hp; omega)) (fun p hp => by have := hnew p hp; omega) (by show x.ws.length ≤ _; omega)
    have HIS := Lib.hid his
    have R6W := Lib.hid ((R65.out.to hbw).other (g := w2.heap.size) (j := 9 + k * 2 + 1) (by omega) (.slice A2 x.ws.length c2))
    have HBF := Lib.hid (BW.out.trans (hb25.mono (by omega)))
    have HCN := Lib.hid his.C25
    have hzF := hb25.size
    clear hg2 hb2 hown2 q3 q1 g3 q3w q1w g3w hbw hrow hC k7 hob hnew hb25 his p0
    go_wp2_with (first | (refine wpList_load_var rfl 42 (.tmp 8) rfl w2.heap.size rfl (Stv.mk so.tx (so.hs.set k true) (so.bs.set k ⟨x.a, x.ws, A2, c2⟩)).C _ 25 HROW.out Try.underlying42 rfl size_25 HCN.out ?_) | (refine wpList_store_var rfl 42 (.tmp 6) (.tmp 43) rfl (w.heap.size + 1 + 1) Stv.zero.C (Stv.mk so.tx (so.hs.set k true) (so.bs.set k ⟨x.a, x.ws, A2, c2⟩)).C 25 rfl rfl R6W.out size_25 rfl HCN.out (Stv.C_one _) ?_; intro w6 r6 k6; have R66 := Lib.hid r6; have K6 := Lib.hid k6; clear r6 k6))
    exact bodyPost_ret (results_cell_tmp rfl _ _ (w.heap.size + 1 + 1) 42 (Stv.mk so.tx (so.hs.set k true) (so.bs.set k ⟨x.a, x.ws, A2, c2⟩)).C.toArray (0, 0) _ rfl R66.out Try.underlying42 rfl (by rw [size_25, List.size_toArray, HCN.out])) rfl ⟨⟨so.tx, so.hs.set k true, so.bs.set k ⟨x.a, x.ws, A2, c2⟩⟩, rfl, (HIS.out.only K6.out (by omega)).more (by omega), K6.out.to HBF.out (by omega)⟩
end Go.Proofs.Ytopkncbpkccfbaa
