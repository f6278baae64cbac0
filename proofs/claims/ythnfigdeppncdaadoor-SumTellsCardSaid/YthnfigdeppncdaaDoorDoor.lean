/- The laid table of math/bits: what the row's condition gives the walks, and that the door's own heap meets it. -/
import Derived.Test.YthnfigdeppncdaaDoorRows
import Derived.Test.YthnfigdeppncdaaDoorZeros
import Derived.ProofKit
import Derived.LaidMore
import Derived.OpenShut
import Derived.Stop.Joined
namespace Go.Proofs.YthnfigdeppncdaaDoor
open Go.ChangeShapes Go.WideShapes Go.ChangeAt Go.WideMaps Go.WideElems Go.RowKit
theorem gTab : Tryd.prog.globalNamed "math/bits.deBruijn32tab" = some 0 := by kernel_rfl
theorem tTab : (Tryd.prog.globals[0]?).map (·.type) = some 44 := by kernel_rfl
theorem tab_is {H : Type} : (Rows.laid_math_bits_deBruijn32tab : DataW H) = .agg (Lib.deBruijn32tab.map fun n : Nat => .lit (.int .u8 (n : Int))) := rfl
theorem door_met (os : Os) (args : Array Value) : laidMetH Tryd.prog Rows.sumZerosRow.laid ((World.doorLaid Tryd.prog 400 os).forCall (fun _ _ => 0) ⟨#[], args, []⟩).memory :=
  laidMetH_of_parts3 (fuel := 8) (laidMet_of_run' 8 (by kernel_rfl) (by kernel_rfl)) (by kernel_rfl) (by kernel_rfl)
theorem of_laid {W : World} (h : laidMetH Tryd.prog Rows.sumZerosRow.laid W) : Tab W ∧ 0 < W.heap.size := by
  rw [MakeChecks.laidMetH_plain _ _ _ (by kernel_rfl)] at h
  obtain ⟨ps, ⟨g0, t0, cs0, f0, p0, q0, hg0, ht0, hv0, hd0, _, _⟩, _, _⟩ := h
  obtain rfl := Option.some.inj (gTab.symm.trans hg0)
  obtain rfl := Option.some.inj (tTab.symm.trans ht0)
  obtain ⟨xs, m1, rfl, hx1, hlen, hn, hel⟩ := DataW.trod_array Tryd.underlying44 hd0
  have c5 : Tryd.prog.cellsOf 5 = 1 := by kernel_rfl
  simp only [Prod.mk.injEq] at hx1
  have hagg := hx1.1
  rw [tab_is, DataW.agg.injEq] at hagg
  have hT : Tab W := by
    intro j hj
    have hj2 : j < 32 := hj
    have hy := hel j hj2
    obtain ⟨y, hxy⟩ : ∃ y, xs[j]? = some y := ⟨_, List.getElem?_eq_getElem (by omega)⟩
    rw [hxy, c5, Nat.mul_one] at hy
    obtain ⟨k, e1, e2, _⟩ := DataW.trod_int Tryd.underlying5 hy
    have h1 : (Lib.deBruijn32tab.map fun n : Nat => (DataW.lit (.int .u8 (n : Int)) : DataW _))[j]? = (xs.map (·.1))[j]? := by rw [hagg]
    rw [List.getElem?_map, List.getElem?_map, hxy, List.getElem?_eq_getElem hj] at h1
    have hk : ((Lib.deBruijn32tab.getD j 0 : Nat) : Int) = k := by
      rw [List.getD_eq_getElem?_getD, List.getElem?_eq_getElem hj, Option.getD_some]
      rw [e2] at h1
      simpa using h1
    have hc := World.var?_cell hg0 hv0 j
    have h2 : ((cs0.toList.drop j).take 1).head? = (cs0.toList.drop j).head? := by simp [List.head?_take]
    rw [hc, hk, ← Array.getElem?_toList, ← List.head?_drop, ← h2, e1]
    rfl
  exact ⟨hT, Nat.lt_of_le_of_lt (Nat.zero_le _) (block_lt_of_cell (hT 0 (by decide)))⟩
end Go.Proofs.YthnfigdeppncdaaDoor
