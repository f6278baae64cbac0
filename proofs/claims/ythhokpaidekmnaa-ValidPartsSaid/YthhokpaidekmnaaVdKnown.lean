/- Layer 15: units.known, Known: the table of units. -/
import Derived.Test.YthhokpaidekmnaaVdTimes
import Derived.Test.YthhokpaidekmnaaMapL
namespace Go.Proofs.Ythhokpaidekmnaa
open Go.RowKit
set_option linter.unusedVariables false
set_option linter.unusedSimpArgs false
attribute [local go_sem] Later.cell Later.frozen setCell_twice
abbrev unV (u : Un) : Value := .agg #[.string u.base, .int .i64 (u.num : Int), .int .i64 (u.den : Int)]
def unE : Array MapEntry := (Vd.unitTab.mapIdx fun i p => ({ key := .string p.1, val := unV p.2, born := i } : MapEntry)).toArray
set_option maxHeartbeats 2000000 in
set_option maxRecDepth 100000 in
theorem known_map (w : World) : Calls Try.prog 40 #[] w fun e w' => e = .returned (.map (some w.heap.size)) ∧ MapIs w' w.heap.size unE 18 ∧ Below w.heap.size w w' := by
 have hmm := @run_makeMap Try.prog
 go_enter Try.func40, Try.ntmps40
 have M0 := Lib.hid (MapIs.new w w.heap.size rfl)
 go_wp2_with (first | (refine wpList_insert rfl 75 (.tmp 1) (.const (.string ⟨#[]⟩)) (.tmp 2) rfl 9 65 .string w.heap.size (.string ⟨#[]⟩) (unV ⟨⟨#[]⟩, 1, 1⟩) Try.underlying75 Try.underlying9 rfl rfl rfl M0.out trivial (by kernel_rfl) ?_; intro w1 m1 k1; have M1 := Lib.hid m1; have K1 := Lib.hid ((bel_alloc (Below.refl w.heap.size w) (.map #[] 0)).trans (k1.below (Nat.le_refl _))); clear m1 k1) | (refine wpList_insert rfl 75 (.tmp 1) (.const (.string ⟨#[37]⟩)) (.tmp 3) rfl 9 65 .string w.heap.size (.string ⟨#[37]⟩) (unV ⟨⟨#[]⟩, 1, 1⟩) Try.underlying75 Try.underlying9 rfl rfl rfl M1.out trivial (by kernel_rfl) ?_; intro w2 m2 k2; have M2 := Lib.hid m2; have K2 := Lib.hid (K1.out.trans (k2.below (Nat.le_refl _))); clear m2 k2) | (refine wpList_insert rfl 75 (.tmp 1) (.const (.string ⟨#[109]⟩)) (.tmp 4) rfl 9 65 .string w.heap.size (.string ⟨#[109]⟩) (unV ⟨⟨#[109]⟩, 1, 1⟩) Try.underlying75 Try.underlying9 rfl rfl rfl M2.out trivial (by kernel_rfl) ?_; intro w3 m3 k3; have M3 := Lib.hid m3; have K3 := Lib.hid (K2.out.trans (k3.below (Nat.le_refl _))); clear m3 k3) | (refine wpList_insert rfl 75 (.tmp 1) (.const (.string ⟨#[99, 109]⟩)) (.tmp 5) rfl 9 65 .string w.heap.size (.string ⟨#[99, 109]⟩) (unV ⟨⟨#[109]⟩, 1, 100⟩) Try.underlying75 Try.underlying9 rfl rfl rfl M3.out trivial (by kernel_rfl) ?_; intro w4 m4 k4; have M4 := Lib.hid m4; have K4 := Lib.hid (K3.out.trans (k4.below (Nat.le_refl _))); clear m4 k4) | (refine wpList_insert rfl 75 (.tmp 1) (.const (.string ⟨#[109, 109]⟩)) (.tmp 6) rfl 9 65 .string w.heap.size (.string ⟨#[109, 109]⟩) (unV ⟨⟨#[109]⟩, 1, 1000⟩) Try.underlying75 Try.underlying9 rfl rfl rfl M4.out trivial (by kernel_rfl) ?_; intro w5 m5 k5; have M5 := Lib.hid m5; have K5 := Lib.hid (K4.out.trans (k5.below (Nat.le_refl _))); clear m5 k5) | (refine wpList_insert rfl 75 (.tmp 1) (.const (.string ⟨#[115]⟩)) (.tmp 7) rfl 9 65 .string w.heap.size (.string ⟨#[115]⟩) (unV ⟨⟨#[115]⟩, 1, 1⟩) Try.underlying75 Try.underlying9 rfl rfl rfl M5.out trivial (by kernel_rfl) ?_; intro w6 m6 k6; have M6 := Lib.hid m6; have K6 := Lib.hid (K5.out.trans (k6.below (Nat.le_refl _))); clear m6 k6) | (refine wpList_insert rfl 75 (.tmp 1) (.const (.string ⟨#[109, 115]⟩)) (.tmp 8) rfl 9 65 .string w.heap.size (.string ⟨#[109, 115]⟩) (unV ⟨⟨#[115]⟩, 1, 1000⟩) Try.underlying75 Try.underlying9 rfl rfl rfl M6.out trivial (by kernel_rfl) ?_; intro w7 m7 k7; have M7 := Lib.hid m7; have K7 := Lib.hid (K6.out.trans (k7.below (Nat.le_refl _))); clear m7 k7) | (refine wpList_insert rfl 75 (.tmp 1) (.const (.string ⟨#[109, 105, 110]⟩)) (.tmp 9) rfl 9 65 .string w.heap.size (.string ⟨#[109, 105, 110]⟩) (unV ⟨⟨#[115]⟩, 60, 1⟩) Try.underlying75 Try.underlying9 rfl rfl rfl M7.out trivial (by kernel_rfl) ?_; intro w8 m8 k8; have M8 := Lib.hid m8; have K8 := Lib.hid (K7.out.trans (k8.below (Nat.le_refl _))); clear m8 k8) | (refine wpList_insert rfl 75 (.tmp 1) (.const (.string ⟨#[104]⟩)) (.tmp 10) rfl 9 65 .string w.heap.size (.string ⟨#[104]⟩) (unV ⟨⟨#[115]⟩, 3600, 1⟩) Try.underlying75 Try.underlying9 rfl rfl rfl M8.out trivial (by kernel_rfl) ?_; intro w9 m9 k9; have M9 := Lib.hid m9; have K9 := Lib.hid (K8.out.trans (k9.below (Nat.le_refl _))); clear m9 k9) | (refine wpList_insert rfl 75 (.tmp 1) (.const (.string ⟨#[98, 97, 114]⟩)) (.tmp 11) rfl 9 65 .string w.heap.size (.string ⟨#[98, 97, 114]⟩) (unV ⟨⟨#[98, 97, 114]⟩, 1, 1⟩) Try.underlying75 Try.underlying9 rfl rfl rfl M9.out trivial (by kernel_rfl) ?_; intro w10 m10 k10; have M10 := Lib.hid m10; have K10 := Lib.hid (K9.out.trans (k10.below (Nat.le_refl _))); clear m10 k10) | (refine wpList_insert rfl 75 (.tmp 1) (.const (.string ⟨#[109, 98, 97, 114]⟩)) (.tmp 12) rfl 9 65 .string w.heap.size (.string ⟨#[109, 98, 97, 114]⟩) (unV ⟨⟨#[98, 97, 114]⟩, 1, 1000⟩) Try.underlying75 Try.underlying9 rfl rfl rfl M10.out trivial (by kernel_rfl) ?_; intro w11 m11 k11; have M11 := Lib.hid m11; have K11 := Lib.hid (K10.out.trans (k11.below (Nat.le_refl _))); clear m11 k11) | (refine wpList_insert rfl 75 (.tmp 1) (.const (.string ⟨#[107, 80, 97]⟩)) (.tmp 13) rfl 9 65 .string w.heap.size (.string ⟨#[107, 80, 97]⟩) (unV ⟨⟨#[98, 97, 114]⟩, 1, 100⟩) Try.underlying75 Try.underlying9 rfl rfl rfl M11.out trivial (by kernel_rfl) ?_; intro w12 m12 k12; have M12 := Lib.hid m12; have K12 := Lib.hid (K11.out.trans (k12.below (Nat.le_refl _))); clear m12 k12) | (refine wpList_insert rfl 75 (.tmp 1) (.const (.string ⟨#[107, 103]⟩)) (.tmp 14) rfl 9 65 .string w.heap.size (.string ⟨#[107, 103]⟩) (unV ⟨⟨#[107, 103]⟩, 1, 1⟩) Try.underlying75 Try.underlying9 rfl rfl rfl M12.out trivial (by kernel_rfl) ?_; intro w13 m13 k13; have M13 := Lib.hid m13; have K13 := Lib.hid (K12.out.trans (k13.below (Nat.le_refl _))); clear m13 k13) | (refine wpList_insert rfl 75 (.tmp 1) (.const (.string ⟨#[103]⟩)) (.tmp 15) rfl 9 65 .string w.heap.size (.string ⟨#[103]⟩) (unV ⟨⟨#[107, 103]⟩, 1, 1000⟩) Try.underlying75 Try.underlying9 rfl rfl rfl M13.out trivial (by kernel_rfl) ?_; intro w14 m14 k14; have M14 := Lib.hid m14; have K14 := Lib.hid (K13.out.trans (k14.below (Nat.le_refl _))); clear m14 k14) | (refine wpList_insert rfl 75 (.tmp 1) (.const (.string ⟨#[116]⟩)) (.tmp 16) rfl 9 65 .string w.heap.size (.string ⟨#[116]⟩) (unV ⟨⟨#[107, 103]⟩, 1000, 1⟩) Try.underlying75 Try.underlying9 rfl rfl rfl M14.out trivial (by kernel_rfl) ?_; intro w15 m15 k15; have M15 := Lib.hid m15; have K15 := Lib.hid (K14.out.trans (k15.below (Nat.le_refl _))); clear m15 k15) | (refine wpList_insert rfl 75 (.tmp 1) (.const (.string ⟨#[108]⟩)) (.tmp 17) rfl 9 65 .string w.heap.size (.string ⟨#[108]⟩) (unV ⟨⟨#[108]⟩, 1, 1⟩) Try.underlying75 Try.underlying9 rfl rfl rfl M15.out trivial (by kernel_rfl) ?_; intro w16 m16 k16; have M16 := Lib.hid m16; have K16 := Lib.hid (K15.out.trans (k16.below (Nat.le_refl _))); clear m16 k16) | (refine wpList_insert rfl 75 (.tmp 1) (.const (.string ⟨#[109, 108]⟩)) (.tmp 18) rfl 9 65 .string w.heap.size (.string ⟨#[109, 108]⟩) (unV ⟨⟨#[108]⟩, 1, 1000⟩) Try.underlying75 Try.underlying9 rfl rfl rfl M16.out trivial (by kernel_rfl) ?_; intro w17 m17 k17; have M17 := Lib.hid m17; have K17 := Lib.hid (K16.out.trans (k17.below (Nat.le_refl _))); clear m17 k17) | (refine wpList_insert rfl 75 (.tmp 1) (.const (.string ⟨#[67]⟩)) (.tmp 19) rfl 9 65 .string w.heap.size (.string ⟨#[67]⟩) (unV ⟨⟨#[67]⟩, 1, 1⟩) Try.underlying75 Try.underlying9 rfl rfl rfl M17.out trivial (by kernel_rfl) ?_; intro w18 m18 k18; have M18 := Lib.hid m18; have K18 := Lib.hid (K17.out.trans (k18.below (Nat.le_refl _))); clear m18 k18))
 go_ret
 exact ⟨rfl, M18.out, K18.out⟩
theorem look_of_mem : ∀ (l : List (ByteArray × Un)) (p : ByteArray × Un), (l.map (·.1)).Nodup → p ∈ l → Vd.look p.1 l = some p.2
 | [], p, _, h => by cases h
 | q :: l, p, hn, h => by
  rw [List.map_cons, List.nodup_cons] at hn
  rw [Vd.look]
  rcases List.mem_cons.1 h with rfl | h
  ·rw [if_pos rfl]
  ·have hne : p.1 ≠ q.1 := fun he => hn.1 (he ▸ List.mem_map.2 ⟨p, h, rfl⟩)
   rw [if_neg hne]
   exact look_of_mem l p hn.2 h
theorem look_none : ∀ (l : List (ByteArray × Un)) (s : ByteArray), (∀ p ∈ l, p.1 ≠ s) → Vd.look s l = none
 | [], s, _ => rfl
 | q :: l, s, h => by
  rw [Vd.look, if_neg (fun e => h q (.head _) e.symm)]
  exact look_none l s (fun p hp => h p (.tail _ hp))
theorem unE_mem {e : MapEntry} (h : e ∈ unE.toList) : ∃ p ∈ Vd.unitTab, e.key = .string p.1 ∧ e.val = unV p.2 := by
 unfold unE at h
 obtain ⟨i, hi, rfl⟩ := List.mem_mapIdx.1 h
 exact ⟨Vd.unitTab[i], List.getElem_mem hi, rfl, rfl⟩
theorem unE_has {p : ByteArray × Un} (h : p ∈ Vd.unitTab) : ∃ e ∈ unE.toList, e.key = .string p.1 := by
 obtain ⟨i, hi, rfl⟩ := List.getElem_of_mem h
 exact ⟨_, by unfold unE; exact List.mem_mapIdx.2 ⟨i, hi, rfl⟩, rfl⟩
theorem tab_nodup : (Vd.unitTab.map (·.1)).Nodup := by decide
/-- the zero unit -/
abbrev un0 : Un := ⟨⟨#[]⟩, 0, 0⟩
theorem unit_look (w : World) (g : Nat) (s : ByteArray) (hb : MapIs w g unE 18) :
  (Instr.lookup 75 (.map (some g)) (.string s) true).run Try.prog w = .ok (.tuple #[unV ((Vd.known s).getD un0), .bool (Vd.known s).isSome]) w := by
 refine run_look_key 75 9 65 .string (.string s) Try.underlying75 Try.underlying9 trivial hb _ _ ?_
 rcases MapKept.findNow_spec (d := .string) (k := .string s) trivial unE.toList 0 (fun e he => by obtain ⟨p, _, hk, _⟩ := unE_mem he; rw [hk]; trivial) with ⟨h1, h2⟩ | ⟨j, e, h1, h2, h3⟩
 ·have : Vd.known s = none := look_none _ _ (fun p hp he => by
   obtain ⟨e, he1, he2⟩ := unE_has hp
   exact h2 e he1 (by rw [he2, he]))
  rw [this]
  exact .inr ⟨h1, by kernel_rfl, rfl⟩
 ·obtain ⟨p, hp, hk, hv⟩ := unE_mem (List.mem_of_getElem? h2)
  have hs : p.1 = s := by rw [hk] at h3; simpa using h3
  have : Vd.known s = some p.2 := by rw [← hs]; exact look_of_mem _ p tab_nodup hp
  rw [this]
  rw [hv] at h1
  exact .inl ⟨_, h1, rfl⟩
end Go.Proofs.Ythhokpaidekmnaa
