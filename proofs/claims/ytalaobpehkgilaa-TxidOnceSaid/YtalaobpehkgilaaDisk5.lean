/- A disk: Bytes. -/
import Derived.Test.YtalaobpehkgilaaDisk4
namespace Go.Proofs.Ytalaobpehkgilaa
open Go.RowKit
set_option linter.unusedVariables false
attribute [local go_sem] Later.cell Later.frozen setCell_twice
theorem made_b (n : Nat) : (madeCells (Value.int .u8 0).cells n).toList = (List.replicate n 0).map byw := made_map byw 0 n
section
variable {w : World} {B g c : Nat} {A : Option Addr} {D : Dk}
set_option maxHeartbeats 400000 in
theorem bytes_any (h : DkAt w B g A c D) : Calls Try.prog 15 #[.pointer (some ⟨g, 0, none⟩)] w (Makes byw 5 w D.l) := by
  obtain ⟨i0, hif, hz0, hz1, hz2⟩ := info_parts info_b8
  have km := Lib.hid (made_yes h)
  have H := Lib.hid h
  obtain ⟨m, hm⟩ : ∃ m, D.l.length = m := ⟨_, rfl⟩
  have HM := Lib.hid hm
  have hm2 : m ≤ 262144 := by have := h.ok.room; have := h.ok.hi; omega
  have c2 : w.cell? ⟨g, 2, none⟩ = some (.slice A m c) := by have : w.cell? ⟨g, 2, none⟩ = some (.slice A D.l.length c) := h.row.cells 2; rwa [hm] at this
  have hg := h.lt
  clear h hm
  go_enter Try.func15, Try.ntmps15
  go_wp2_with fail
  refine (km.out).mono ?_
  rintro e_ w_ ⟨rfl, rfl⟩
  go_wp2_with (first | (at_make; refine wpList_make_full _ rfl _ _ 33 rfl w.heap.size 5 i0 (.int .u8 0) 1 Try.underlying33 hif hz0 hz1 _ _ _ _ m rfl rfl rfl rfl (by rw [hz2]; omega) (by unfold Go.maxLen; omega) (by simp) ?_; intro w2 o2 hg2; have hb2 : Below w.heap.size w w2 := (Below.refl _ _).grown hg2 (Nat.le_refl _) (by simp); have o2' : w2.ownsRow w.heap.size 5 1 (.slice (some ⟨w.heap.size, 0, none⟩) m m) m ((List.replicate m 0).map byw) := (by rw [Nat.mul_one, made_b] at o2; exact o2); have O2 := Lib.hid o2'; have d2 : w2.cell? ⟨g, 2, none⟩ = some (.slice A m c) := (hb2.cell (p := ⟨g, 2, none⟩) hg).trans c2; have s2 := (Sq.of_own H.out.own).below hb2; clear hg2 o2 o2') | (refine wpList_copy_bytes rfl (.tmp 13) (.tmp 17) rfl w.heap.size w.heap.size 0 m (List.replicate m 0) D.l O2.out (some ⟨w.heap.size, 0, none⟩) m m rfl (fun _ => rfl) A m c w.heap.size rfl HM.out (Nat.le_refl _) s2 (by omega) ?_; intro w3 o3 hb3; have O3 := Lib.hid o3; have hbw3 := hb2.trans hb3; clear o3 hb3))
  go_ret
  have o3 := O3.out
  rw [show splice (List.replicate m 0) 0 D.l = D.l by rw [← HM.out]; simp [splice]] at o3
  exact Makes.of_own HM.out o3 hbw3
end
end Go.Proofs.Ytalaobpehkgilaa
