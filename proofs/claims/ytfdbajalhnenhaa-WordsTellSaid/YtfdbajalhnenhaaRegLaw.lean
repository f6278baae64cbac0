/- Plain law of registers in bytes. -/
import Derived.Test.YtfdbajalhnenhaaWAwake
namespace Go.Proofs.Ytfdbajalhnenhaa
set_option linter.unusedVariables false
theorem packRegs_get : ∀ (l : List Nat) (i : Nat), (packRegs l)[2 * i]? = l[i]?.map (· / 256) ∧ (packRegs l)[2 * i + 1]? = l[i]?.map (· % 256)
  | [], i => by simp [packRegs]
  | x :: l, 0 => by simp [packRegs]
  | x :: l, i + 1 => by
    have h := packRegs_get l i
    rw [show 2 * (i + 1) = 2 * i + 1 + 1 by omega, show 2 * i + 1 + 1 + 1 = (2 * i + 1) + 1 + 1 by omega]
    simp only [packRegs, List.getElem?_cons_succ]
    exact h
theorem regs_pack {l : List Nat} (h : ∀ x ∈ l, x < 65536) : regsOf (packRegs l) = l := by
  apply List.ext_getElem?
  intro i
  by_cases hi : i < l.length
  · have hg := packRegs_get l i
    have hx : l[i]? = some l[i] := List.getElem?_eq_getElem hi
    rw [hx] at hg
    rw [regsOf_get _ (by simpa using hg.1) (by simpa using hg.2), hx]
    congr 1
    omega
  · rw [List.getElem?_eq_none (by rw [regsOf_length, packRegs_length]; omega), List.getElem?_eq_none (by omega)]
theorem pack_regs {b : List Nat} (hb : ∀ x ∈ b, x < 256) (h : b.length % 2 = 0) : packRegs (regsOf b) = b := by
  apply List.ext_getElem?
  intro j
  by_cases hj : j < b.length
  · obtain ⟨x, hx⟩ : ∃ x, b[2 * (j / 2)]? = some x := ⟨_, List.getElem?_eq_getElem (by omega)⟩
    obtain ⟨y, hy⟩ : ∃ y, b[2 * (j / 2) + 1]? = some y := ⟨_, List.getElem?_eq_getElem (by omega)⟩
    have hxl := hb x (List.mem_of_getElem? hx)
    have hyl := hb y (List.mem_of_getElem? hy)
    have hg := packRegs_get (regsOf b) (j / 2)
    rw [regsOf_get b hx hy] at hg
    by_cases h0 : j % 2 = 0
    · have e : j = 2 * (j / 2) := by omega
      rw [e, hg.1, hx]
      simp
      omega
    · have e : j = 2 * (j / 2) + 1 := by omega
      rw [e, hg.2, hy]
      simp
      omega
  · rw [List.getElem?_eq_none (by rw [packRegs_length, regsOf_length]; omega), List.getElem?_eq_none (by omega)]
theorem regsOf_lt {b : List Nat} (hb : ∀ x ∈ b, x < 256) : ∀ x ∈ regsOf b, x < 65536 := by
  have hg : ∀ j, b.getD j 0 < 256 := fun j => by
    rw [List.getD_eq_getElem?_getD]
    cases h : b[j]? with
    | none => decide
    | some x => exact hb x (List.mem_of_getElem? h)
  intro x hx
  obtain ⟨i, _, rfl⟩ := List.mem_map.1 hx
  have := hg (2 * i)
  have := hg (2 * i + 1)
  omega
theorem sg_word {x : Nat} (h : x < 65536) : (sg x % 65536).toNat = x := by unfold sg; split <;> omega
theorem sg_in {x : Nat} (h : x < 65536) : -32768 ≤ sg x ∧ sg x < 32768 := by unfold sg; split <;> omega
end Go.Proofs.Ytfdbajalhnenhaa
