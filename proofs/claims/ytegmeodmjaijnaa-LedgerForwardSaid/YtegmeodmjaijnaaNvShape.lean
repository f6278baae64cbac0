/- Layer 10: shape, Right. -/
import Derived.Test.YtegmeodmjaijnaaMapL
import Derived.Test.YtegmeodmjaijnaaNvLaw
import Derived.Test.YtegmeodmjaijnaaVarB
import Derived.Test.YtegmeodmjaijnaaRowC
namespace Go.Proofs.Ytegmeodmjaijnaa
open Go.RowKit
set_option linter.unusedVariables false
attribute [local go_sem] Later.cell Later.frozen setCell_twice
/-- which fields a kind of record may have -/
def shp (what : Nat) : Bool × Bool × Bool × Bool :=
  if what = 1 then (false, false, false, true) else if what = 2 then (true, false, true, true) else if what = 3 then (false, true, false, true) else if what = 4 then (false, false, false, true) else (false, false, false, false)
theorem size_fields : (Try.prog.info? 67).map (·.size) = some 3 := by kernel_rfl
theorem zero_fields (w : World) : (zeroValue 67).run Try.prog w = .ok (.agg #[.bool false, .bool false, .bool false]) w := by kernel_rfl
def shpE : Array MapEntry := #[{ key := .int .u8 1, val := .agg #[.bool false, .bool false, .bool false], born := 0 }, { key := .int .u8 2, val := .agg #[.bool true, .bool false, .bool true], born := 1 }, { key := .int .u8 3, val := .agg #[.bool false, .bool true, .bool false], born := 2 }, { key := .int .u8 4, val := .agg #[.bool false, .bool false, .bool false], born := 3 }]
abbrev shpV (what : Nat) : Value := .agg #[.bool (shp what).1, .bool (shp what).2.1, .bool (shp what).2.2.1]
theorem shp_find (what : Nat) (w : World) : (∃ i, Instr.findNow (.int .u8) (.int .u8 (what : Int)) shpE.toList 0 = some (some (i, shpV what)) ∧ (shp what).2.2.2 = true) ∨ (Instr.findNow (.int .u8) (.int .u8 (what : Int)) shpE.toList 0 = some none ∧ (zeroValue 67).run Try.prog w = .ok (shpV what) w ∧ (shp what).2.2.2 = false) := by
  by_cases h1 : what = 1
  · subst h1; exact .inl ⟨0, rfl, rfl⟩
  by_cases h2 : what = 2
  · subst h2; exact .inl ⟨1, rfl, rfl⟩
  by_cases h3 : what = 3
  · subst h3; exact .inl ⟨2, rfl, rfl⟩
  by_cases h4 : what = 4
  · subst h4; exact .inl ⟨3, rfl, rfl⟩
  · refine .inr ⟨?_, ?_, by simp [shp, h1, h2, h3, h4]⟩
    · have g1 : ((what : Int) == 1) = false := by simp; omega
      have g2 : ((what : Int) == 2) = false := by simp; omega
      have g3 : ((what : Int) == 3) = false := by simp; omega
      have g4 : ((what : Int) == 4) = false := by simp; omega
      simp [shpE, Instr.findNow, Instr.sameNow, g1, g2, g3, g4]
    · rw [zero_fields]
      simp [shpV, shp, h1, h2, h3, h4]
set_option maxRecDepth 100000 in
set_option maxHeartbeats 400000 in
theorem shape_any (what : Nat) (w : World) : Calls Try.prog 42 #[.int .u8 (what : Int)] w fun e w' => e = .returned (.tuple #[shpV what, .bool (shp what).2.2.2]) ∧ Below w.heap.size w w' := by
  have hmm := @run_makeMap Try.prog
  have F := Lib.hid (shp_find what)
  go_enter Try.func42, Try.ntmps42
  go_wp2_with (first
    | (refine wpList_insert rfl 71 (.tmp 7) _ (.tmp 8) rfl 5 67 (.int .u8) (w.heap.size + 1) (.int .u8 1) (.agg #[.bool false, .bool false, .bool false]) Try.underlying71 Try.underlying5 rfl rfl rfl (MapIs.new _ _ (by simp)) rfl rfl ?_; intro w1 m1 o1; have M1 := Lib.hid m1; have O1 := Lib.hid o1; clear m1 o1)
    | (refine wpList_insert rfl 71 (.tmp 7) _ (.tmp 9) rfl 5 67 (.int .u8) (w.heap.size + 1) (.int .u8 2) (.agg #[.bool true, .bool false, .bool true]) Try.underlying71 Try.underlying5 rfl rfl rfl M1.out rfl rfl ?_; intro w2 m2 o2; have M2 := Lib.hid m2; have O2 := Lib.hid o2; clear m2 o2)
    | (refine wpList_insert rfl 71 (.tmp 7) _ (.tmp 10) rfl 5 67 (.int .u8) (w.heap.size + 1) (.int .u8 3) (.agg #[.bool false, .bool true, .bool false]) Try.underlying71 Try.underlying5 rfl rfl rfl M2.out rfl rfl ?_; intro w3 m3 o3; have M3 := Lib.hid m3; have O3 := Lib.hid o3; clear m3 o3)
    | (refine wpList_insert rfl 71 (.tmp 7) _ (.tmp 11) rfl 5 67 (.int .u8) (w.heap.size + 1) (.int .u8 4) (.agg #[.bool false, .bool false, .bool false]) Try.underlying71 Try.underlying5 rfl rfl rfl M3.out rfl rfl ?_; intro w4 m4 o4; have M4 : Hid (MapIs w4 (w.heap.size + 1) shpE 4) := Lib.hid m4; have O4 := Lib.hid o4; clear m4 o4)
    | (refine wpList_look rfl 71 (.tmp 12) (.tmp 13) rfl (w.heap.size + 1) (.int .u8 (what : Int)) (shpV what) (shp what).2.2.2 rfl rfl (run_look_key 71 5 67 (.int .u8) (.int .u8 (what : Int)) Try.underlying71 Try.underlying5 rfl M4.out (shpV what) (shp what).2.2.2 (F.out w4)) ?_; have R4 := Lib.hid (RowAt.only (RowAt.only (RowAt.only (RowAt.only ((RowAt.new' w w.heap.size 67 [.bool false, .bool false, .bool false] rfl).alloc (.map #[] 0)) O1.out (by omega)) O2.out (by omega)) O3.out (by omega)) O4.out (by omega)); have BE4 := Lib.hid (((((bel_alloc (bel_alloc (Below.refl w.heap.size w) (.cells #[.bool false, .bool false, .bool false] 67)) (.map #[] 0)).trans (O1.out.below (by omega))).trans (O2.out.below (by omega))).trans (O3.out.below (by omega))).trans (O4.out.below (by omega))); clear M1 M2 M3 M4 O1 O2 O3 O4)
    | (refine wpList_store_var rfl 67 (.tmp 2) (.tmp 17) rfl w.heap.size [.bool false, .bool false, .bool false] [.bool (shp what).1, .bool (shp what).2.1, .bool (shp what).2.2.1] 3 rfl rfl (R4.out.alloc _) size_fields rfl rfl (by simp [Value.oneCell']) ?_; intro w5 r5 k5; have R5 := Lib.hid r5; have K5 := Lib.hid k5; clear r5 k5))
  have rlt : w.heap.size < (w5).heap.size := R5.out.lt
  have rlu : w.heap.size < (w5).heap.size + 1 := Nat.lt_succ_of_lt R5.out.lt
  have r0 : (w5).cell? ⟨w.heap.size, 0, none⟩ = some (.bool (shp what).1) := R5.out.cells 0
  have rz0 : (w5).frozen? ⟨w.heap.size, 0, none⟩ = false := R5.out.frozen 0
  have r1 : (w5).cell? ⟨w.heap.size, 1, none⟩ = some (.bool (shp what).2.1) := R5.out.cells 1
  have rz1 : (w5).frozen? ⟨w.heap.size, 1, none⟩ = false := R5.out.frozen 1
  have r2 : (w5).cell? ⟨w.heap.size, 2, none⟩ = some (.bool (shp what).2.2.1) := R5.out.cells 2
  have rz2 : (w5).frozen? ⟨w.heap.size, 2, none⟩ = false := R5.out.frozen 2
  refine bodyPost_ret (v := .tuple #[shpV what, .bool (shp what).2.2.2]) (by simp [results, Try.results42, go_sem, *]) rfl ⟨rfl, (bel_alloc BE4.out _).trans (K5.out.below (Nat.le_refl _))⟩
end Go.Proofs.Ytegmeodmjaijnaa
