/- Layer 15, the document's answer: units (layer 12): Known. -/
import Derived.Test.YthhokpaidekmnaaVrA
namespace Go.Proofs.Ythhokpaidekmnaa
open Go.RowKit
set_option linter.unusedVariables false
set_option linter.unusedSimpArgs false
set_option maxRecDepth 100000
attribute [local go_sem] Later.cell Later.frozen setCell_twice
theorem lit_is (l m : List UInt8) : ((⟨l.toArray⟩ : ByteArray).toList == m) = (l == m) := by rw [ByteArray.toList_mk]
set_option maxHeartbeats 8000000 in
theorem rknown_any (s : ByteArray) (w : World) : Calls Try.prog 27 #[.string s] w fun e w' => e = .returned (unV2 s) ∧ Below w.heap.size w w' := by
 by_cases c0 : s = ⟨#[]⟩
 ·subst c0
  rw [show unV2 ⟨#[]⟩ = .tuple #[.agg #[.string ⟨#[]⟩, .int .i64 1, .int .i64 1], .bool true] from rfl]
  go_enter Try.func27, Try.ntmps27
  go_wp2
  refine bodyPost_ret (v := .tuple #[.agg #[.string ⟨#[]⟩, .int .i64 1, .int .i64 1], .bool true]) (by simp [results, Try.results27, go_sem, *]) rfl ⟨rfl, belo⟩
 have e0 : s.toList.isEmpty = false := by rw [ByteArray.toList_eq, List.isEmpty_eq_false_iff]; exact fun h => c0 (by obtain ⟨⟨l⟩⟩ := s; simp at h; rw [h])
 by_cases c1 : s = ⟨#[37]⟩
 ·subst c1
  rw [show unV2 ⟨#[37]⟩ = .tuple #[.agg #[.string ⟨#[]⟩, .int .i64 1, .int .i64 1], .bool true] from rfl]
  clear e0
  go_enter Try.func27, Try.ntmps27
  go_wp2
  refine bodyPost_ret (v := .tuple #[.agg #[.string ⟨#[]⟩, .int .i64 1, .int .i64 1], .bool true]) (by simp [results, Try.results27, go_sem, *]) rfl ⟨rfl, belo⟩
 have e1 : (s.toList == [37]) = false := lit_ne c1
 by_cases c2 : s = ⟨#[109]⟩
 ·subst c2
  rw [show unV2 ⟨#[109]⟩ = .tuple #[.agg #[.string ⟨#[109]⟩, .int .i64 1, .int .i64 1], .bool true] from rfl]
  clear e0 e1
  go_enter Try.func27, Try.ntmps27
  go_wp2
  refine bodyPost_ret (v := .tuple #[.agg #[.string ⟨#[109]⟩, .int .i64 1, .int .i64 1], .bool true]) (by simp [results, Try.results27, go_sem, *]) rfl ⟨rfl, belo⟩
 have e2 : (s.toList == [109]) = false := lit_ne c2
 by_cases c3 : s = ⟨#[115]⟩
 ·subst c3
  rw [show unV2 ⟨#[115]⟩ = .tuple #[.agg #[.string ⟨#[115]⟩, .int .i64 1, .int .i64 1], .bool true] from rfl]
  clear e0 e1 e2
  go_enter Try.func27, Try.ntmps27
  go_wp2
  refine bodyPost_ret (v := .tuple #[.agg #[.string ⟨#[115]⟩, .int .i64 1, .int .i64 1], .bool true]) (by simp [results, Try.results27, go_sem, *]) rfl ⟨rfl, belo⟩
 have e3 : (s.toList == [115]) = false := lit_ne c3
 by_cases c4 : s = ⟨#[98, 97, 114]⟩
 ·subst c4
  rw [show unV2 ⟨#[98, 97, 114]⟩ = .tuple #[.agg #[.string ⟨#[98, 97, 114]⟩, .int .i64 1, .int .i64 1], .bool true] from rfl]
  clear e0 e1 e2 e3
  go_enter Try.func27, Try.ntmps27
  go_wp2
  refine bodyPost_ret (v := .tuple #[.agg #[.string ⟨#[98, 97, 114]⟩, .int .i64 1, .int .i64 1], .bool true]) (by simp [results, Try.results27, go_sem, *]) rfl ⟨rfl, belo⟩
 have e4 : (s.toList == [98, 97, 114]) = false := lit_ne c4
 by_cases c5 : s = ⟨#[107, 103]⟩
 ·subst c5
  rw [show unV2 ⟨#[107, 103]⟩ = .tuple #[.agg #[.string ⟨#[107, 103]⟩, .int .i64 1, .int .i64 1], .bool true] from rfl]
  clear e0 e1 e2 e3 e4
  go_enter Try.func27, Try.ntmps27
  go_wp2
  refine bodyPost_ret (v := .tuple #[.agg #[.string ⟨#[107, 103]⟩, .int .i64 1, .int .i64 1], .bool true]) (by simp [results, Try.results27, go_sem, *]) rfl ⟨rfl, belo⟩
 have e5 : (s.toList == [107, 103]) = false := lit_ne c5
 by_cases c6 : s = ⟨#[108]⟩
 ·subst c6
  rw [show unV2 ⟨#[108]⟩ = .tuple #[.agg #[.string ⟨#[108]⟩, .int .i64 1, .int .i64 1], .bool true] from rfl]
  clear e0 e1 e2 e3 e4 e5
  go_enter Try.func27, Try.ntmps27
  go_wp2
  refine bodyPost_ret (v := .tuple #[.agg #[.string ⟨#[108]⟩, .int .i64 1, .int .i64 1], .bool true]) (by simp [results, Try.results27, go_sem, *]) rfl ⟨rfl, belo⟩
 have e6 : (s.toList == [108]) = false := lit_ne c6
 by_cases c7 : s = ⟨#[67]⟩
 ·subst c7
  rw [show unV2 ⟨#[67]⟩ = .tuple #[.agg #[.string ⟨#[67]⟩, .int .i64 1, .int .i64 1], .bool true] from rfl]
  clear e0 e1 e2 e3 e4 e5 e6
  go_enter Try.func27, Try.ntmps27
  go_wp2
  refine bodyPost_ret (v := .tuple #[.agg #[.string ⟨#[67]⟩, .int .i64 1, .int .i64 1], .bool true]) (by simp [results, Try.results27, go_sem, *]) rfl ⟨rfl, belo⟩
 have e7 : (s.toList == [67]) = false := lit_ne c7
 by_cases c8 : s = ⟨#[99, 109]⟩
 ·subst c8
  rw [show unV2 ⟨#[99, 109]⟩ = .tuple #[.agg #[.string ⟨#[109]⟩, .int .i64 1, .int .i64 100], .bool true] from rfl]
  clear e0 e1 e2 e3 e4 e5 e6 e7
  go_enter Try.func27, Try.ntmps27
  go_wp2
  refine bodyPost_ret (v := .tuple #[.agg #[.string ⟨#[109]⟩, .int .i64 1, .int .i64 100], .bool true]) (by simp [results, Try.results27, go_sem, *]) rfl ⟨rfl, belo⟩
 have e8 : (s.toList == [99, 109]) = false := lit_ne c8
 by_cases c9 : s = ⟨#[109, 109]⟩
 ·subst c9
  rw [show unV2 ⟨#[109, 109]⟩ = .tuple #[.agg #[.string ⟨#[109]⟩, .int .i64 1, .int .i64 1000], .bool true] from rfl]
  clear e0 e1 e2 e3 e4 e5 e6 e7 e8
  go_enter Try.func27, Try.ntmps27
  go_wp2
  refine bodyPost_ret (v := .tuple #[.agg #[.string ⟨#[109]⟩, .int .i64 1, .int .i64 1000], .bool true]) (by simp [results, Try.results27, go_sem, *]) rfl ⟨rfl, belo⟩
 have e9 : (s.toList == [109, 109]) = false := lit_ne c9
 by_cases c10 : s = ⟨#[109, 115]⟩
 ·subst c10
  rw [show unV2 ⟨#[109, 115]⟩ = .tuple #[.agg #[.string ⟨#[115]⟩, .int .i64 1, .int .i64 1000], .bool true] from rfl]
  clear e0 e1 e2 e3 e4 e5 e6 e7 e8 e9
  go_enter Try.func27, Try.ntmps27
  go_wp2
  refine bodyPost_ret (v := .tuple #[.agg #[.string ⟨#[115]⟩, .int .i64 1, .int .i64 1000], .bool true]) (by simp [results, Try.results27, go_sem, *]) rfl ⟨rfl, belo⟩
 have e10 : (s.toList == [109, 115]) = false := lit_ne c10
 by_cases c11 : s = ⟨#[109, 105, 110]⟩
 ·subst c11
  rw [show unV2 ⟨#[109, 105, 110]⟩ = .tuple #[.agg #[.string ⟨#[115]⟩, .int .i64 60, .int .i64 1], .bool true] from rfl]
  clear e0 e1 e2 e3 e4 e5 e6 e7 e8 e9 e10
  go_enter Try.func27, Try.ntmps27
  go_wp2
  refine bodyPost_ret (v := .tuple #[.agg #[.string ⟨#[115]⟩, .int .i64 60, .int .i64 1], .bool true]) (by simp [results, Try.results27, go_sem, *]) rfl ⟨rfl, belo⟩
 have e11 : (s.toList == [109, 105, 110]) = false := lit_ne c11
 by_cases c12 : s = ⟨#[104]⟩
 ·subst c12
  rw [show unV2 ⟨#[104]⟩ = .tuple #[.agg #[.string ⟨#[115]⟩, .int .i64 3600, .int .i64 1], .bool true] from rfl]
  clear e0 e1 e2 e3 e4 e5 e6 e7 e8 e9 e10 e11
  go_enter Try.func27, Try.ntmps27
  go_wp2
  refine bodyPost_ret (v := .tuple #[.agg #[.string ⟨#[115]⟩, .int .i64 3600, .int .i64 1], .bool true]) (by simp [results, Try.results27, go_sem, *]) rfl ⟨rfl, belo⟩
 have e12 : (s.toList == [104]) = false := lit_ne c12
 by_cases c13 : s = ⟨#[109, 98, 97, 114]⟩
 ·subst c13
  rw [show unV2 ⟨#[109, 98, 97, 114]⟩ = .tuple #[.agg #[.string ⟨#[98, 97, 114]⟩, .int .i64 1, .int .i64 1000], .bool true] from rfl]
  clear e0 e1 e2 e3 e4 e5 e6 e7 e8 e9 e10 e11 e12
  go_enter Try.func27, Try.ntmps27
  go_wp2
  refine bodyPost_ret (v := .tuple #[.agg #[.string ⟨#[98, 97, 114]⟩, .int .i64 1, .int .i64 1000], .bool true]) (by simp [results, Try.results27, go_sem, *]) rfl ⟨rfl, belo⟩
 have e13 : (s.toList == [109, 98, 97, 114]) = false := lit_ne c13
 by_cases c14 : s = ⟨#[107, 80, 97]⟩
 ·subst c14
  rw [show unV2 ⟨#[107, 80, 97]⟩ = .tuple #[.agg #[.string ⟨#[98, 97, 114]⟩, .int .i64 1, .int .i64 100], .bool true] from rfl]
  clear e0 e1 e2 e3 e4 e5 e6 e7 e8 e9 e10 e11 e12 e13
  go_enter Try.func27, Try.ntmps27
  go_wp2
  refine bodyPost_ret (v := .tuple #[.agg #[.string ⟨#[98, 97, 114]⟩, .int .i64 1, .int .i64 100], .bool true]) (by simp [results, Try.results27, go_sem, *]) rfl ⟨rfl, belo⟩
 have e14 : (s.toList == [107, 80, 97]) = false := lit_ne c14
 by_cases c15 : s = ⟨#[103]⟩
 ·subst c15
  rw [show unV2 ⟨#[103]⟩ = .tuple #[.agg #[.string ⟨#[107, 103]⟩, .int .i64 1, .int .i64 1000], .bool true] from rfl]
  clear e0 e1 e2 e3 e4 e5 e6 e7 e8 e9 e10 e11 e12 e13 e14
  go_enter Try.func27, Try.ntmps27
  go_wp2
  refine bodyPost_ret (v := .tuple #[.agg #[.string ⟨#[107, 103]⟩, .int .i64 1, .int .i64 1000], .bool true]) (by simp [results, Try.results27, go_sem, *]) rfl ⟨rfl, belo⟩
 have e15 : (s.toList == [103]) = false := lit_ne c15
 by_cases c16 : s = ⟨#[116]⟩
 ·subst c16
  rw [show unV2 ⟨#[116]⟩ = .tuple #[.agg #[.string ⟨#[107, 103]⟩, .int .i64 1000, .int .i64 1], .bool true] from rfl]
  clear e0 e1 e2 e3 e4 e5 e6 e7 e8 e9 e10 e11 e12 e13 e14 e15
  go_enter Try.func27, Try.ntmps27
  go_wp2
  refine bodyPost_ret (v := .tuple #[.agg #[.string ⟨#[107, 103]⟩, .int .i64 1000, .int .i64 1], .bool true]) (by simp [results, Try.results27, go_sem, *]) rfl ⟨rfl, belo⟩
 have e16 : (s.toList == [116]) = false := lit_ne c16
 by_cases c17 : s = ⟨#[109, 108]⟩
 ·subst c17
  rw [show unV2 ⟨#[109, 108]⟩ = .tuple #[.agg #[.string ⟨#[108]⟩, .int .i64 1, .int .i64 1000], .bool true] from rfl]
  clear e0 e1 e2 e3 e4 e5 e6 e7 e8 e9 e10 e11 e12 e13 e14 e15 e16
  go_enter Try.func27, Try.ntmps27
  go_wp2
  refine bodyPost_ret (v := .tuple #[.agg #[.string ⟨#[108]⟩, .int .i64 1, .int .i64 1000], .bool true]) (by simp [results, Try.results27, go_sem, *]) rfl ⟨rfl, belo⟩
 have e17 : (s.toList == [109, 108]) = false := lit_ne c17
 have hn : Vd.known s = none := look_none _ _ (fun p hp => by
  revert p
  simp only [Vd.unitTab, List.forall_mem_cons]
  exact ⟨fun h => c0 h.symm, fun h => c1 h.symm, fun h => c2 h.symm, fun h => c8 h.symm, fun h => c9 h.symm, fun h => c3 h.symm, fun h => c10 h.symm, fun h => c11 h.symm, fun h => c12 h.symm, fun h => c4 h.symm, fun h => c13 h.symm, fun h => c14 h.symm, fun h => c5 h.symm, fun h => c15 h.symm, fun h => c16 h.symm, fun h => c6 h.symm, fun h => c17 h.symm, fun h => c7 h.symm, fun _ h => by cases h⟩)
 rw [show unV2 s = .tuple #[.agg #[.string ⟨#[]⟩, .int .i64 0, .int .i64 0], .bool false] by unfold unV2; rw [hn]; rfl]
 clear hn c0 c1 c2 c3 c4 c5 c6 c7 c8 c9 c10 c11 c12 c13 c14 c15 c16 c17
 go_enter Try.func27, Try.ntmps27
 go_wp2
 refine bodyPost_ret (v := .tuple #[.agg #[.string ⟨#[]⟩, .int .i64 0, .int .i64 0], .bool false]) (by simp [results, Try.results27, go_sem, *]) rfl ⟨rfl, belo⟩
end Go.Proofs.Ythhokpaidekmnaa
