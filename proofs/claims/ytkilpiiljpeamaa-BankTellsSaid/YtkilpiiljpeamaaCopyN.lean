/- copy into a row of words of the call's own, whatever its capacity. -/
import Derived.Test.YtkilpiiljpeamaaCopyW
namespace Go.Proofs.Ytkilpiiljpeamaa
open Go.RowKit
set_option linter.unusedVariables false
theorem splice_take {α : Type} (C X : List α) (off N : Nat) (h : off + X.length ≤ N) (hN : N ≤ C.length) : (splice C off X).take N = splice (C.take N) off X := by
  apply List.ext_getElem?
  intro i
  unfold splice
  have ht : (C.take off).length = off := by rw [List.length_take]; omega
  have ht2 : ((C.take N).take off).length = off := by rw [List.length_take, List.length_take]; omega
  by_cases hi : i < N
  · rw [List.getElem?_take_of_lt hi]
    by_cases h1 : i < off
    · rw [List.getElem?_append_left (by omega), List.getElem?_append_left (by omega), List.getElem?_take_of_lt h1, List.getElem?_take_of_lt h1, List.getElem?_take_of_lt hi]
    · rw [List.getElem?_append_right (l₁ := C.take off) (by omega), List.getElem?_append_right (l₁ := (C.take N).take off) (by omega), ht, ht2]
      by_cases h2 : i - off < X.length
      · rw [List.getElem?_append_left h2, List.getElem?_append_left h2]
      · rw [List.getElem?_append_right (by omega), List.getElem?_append_right (by omega), List.getElem?_drop, List.getElem?_drop, List.getElem?_take_of_lt (by omega)]
  · rw [List.getElem?_take_eq_none (by omega), List.getElem?_eq_none]
    simp only [List.length_append, List.length_drop, ht2, List.length_take]
    omega
theorem wpList_copy_row {w : World} {ops : Array Oper} {rest : List Oper} {o : Oper} {a : Act} {Q : Exit → Act → World → Prop} (hgd : o.guard = none) (d s : Operand)
    (ho : o.op = .call { callee := .builtin .copy, args := #[d, s], argTypes := #[22, 22] }) (base g off N c : Nat) (L X : List Nat) (hown : w.ownsRow base 25 1 (.slice (some ⟨g, 0, none⟩) N c) N (L.map u16w))
    (dp : Option Addr) (dLen dCap : Nat) (hd : a.eval d = .slice dp dLen dCap) (hdp : 0 < X.length → dp = some ⟨g, off, none⟩) (Ax : Option Addr) (m cx B : Nat) (hs : a.eval s = .slice Ax m cx) (hm : X.length = m) (hmd : m ≤ dLen) (hX : Sq u16w w B Ax X) (hoff : off + m ≤ N)
    (h : ∀ w', w'.ownsRow base 25 1 (.slice (some ⟨g, 0, none⟩) N c) N ((splice L off X).map u16w) → Below base w w' → wpList Try.prog ops Q rest (a.put o.dst (goInt m)) w') :
    wpList Try.prog ops Q (o :: rest) a w := by
  obtain ⟨hl, hr⟩ := hown
  rcases hr with ⟨h1, _⟩ | ⟨g', cap, cur, hv, hbg, hh, h3, h4, h5, h6⟩
  · cases h1
  obtain ⟨rfl, rfl⟩ : g = g' ∧ c = cap := by simpa using hv
  have hLl : L.length = N := by simpa using hl
  have hcl : cur.toList.length = c := by simpa using h5
  refine wpList_copy_splice hgd d s _ _ ho 25 Try.underlying22 size_w16 dp Ax dLen dCap m cx hd hs g off cur.toList 25 (by simpa using hh) (X.map u16w) (by rw [List.length_map, hm]; exact (Nat.min_eq_left hmd).symm) (fun hp => ?_) (by rw [List.length_map]; omega) (by intro v hv; obtain ⟨x, _, rfl⟩ := List.mem_map.1 hv; rfl) base w (Below.refl _ _) hbg (fun w' hg' hb' => ?_)
  · rw [List.length_map] at hp
    obtain ⟨b2, o2, rfl, _, hc⟩ := hX hp
    refine ⟨hdp hp, _, rfl, fun j v hv => ?_⟩
    have hadd : (⟨b2, o2, none⟩ : Addr).add j = ⟨b2, o2 + j, none⟩ := by unfold Addr.add; split <;> simp_all
    rw [hadd]
    simp only [List.getElem?_map, Option.map_eq_some_iff] at hv
    obtain ⟨y, hy, rfl⟩ := hv
    exact hc j y hy
  · have hl2 : (X.map u16w).length = m := by simp [hm]
    rw [hl2]
    refine h w' ⟨by rw [List.length_map, length_splice _ _ _ (by omega), hLl]; omega, .inr ⟨g, c, (splice cur.toList off (X.map u16w)).toArray, rfl, hbg, hg'.out, h3, h4, ?_, ?_⟩⟩ hb'
    · rw [List.size_toArray, length_splice _ _ _ (by rw [hl2]; omega), hcl]; omega
    · have h6' : cur.toList.take N = L.map u16w := by simpa using h6
      have := splice_take cur.toList (X.map u16w) off N (by rw [hl2]; omega) (by omega)
      rw [h6', splice_map] at this
      simpa using this
end Go.Proofs.Ytkilpiiljpeamaa
