/- The walk of StageRefuses. -/
import Derived.Test.YtopkncbpkccfbaaStgRef
import Derived.Test.YtopkncbpkccfbaaStgRfB
namespace Go.Proofs.Ytopkncbpkccfbaa
open Go.RowKit
set_option linter.unusedVariables false
attribute [local go_sem] Later.cell Later.frozen setCell_twice
set_option maxHeartbeats 400000 in
theorem stageRefuses_walk (n : Int) (x : Blk) (o t ai to : Nat) (w : World) (hx : x.Ok w w.heap.size) (ho : o < 65536) (ht : t < 4294967296) (hai : ai < 256) (hto : to < 65536) :
    Calls Try.prog 5 #[.int .i64 n, .agg #[.int .i64 x.a, .slice x.A x.ws.length x.c], .int .u16 (o : Int), .int .u32 (t : Int), .int .u8 (ai : Int), .int .u16 (to : Int)] w fun e w' => e = .returned (.bool true) ∧ Below w.heap.size w w' := by
  by_cases h1 : 100 < x.ws.length
  · have g1 : decide ((100 : Int) < (x.ws.length : Int)) = true := by simp; omega
    go_enter Try.func5, Try.ntmps5
    go_wp2_with fail
    refine (awake_any _).mono ?_
    rintro e_x1 w_x1 ⟨rfl, hb_x1⟩
    obtain ⟨x1, rfl⟩ := later_is hb_x1
    clear hb_x1
    have hz_x1 := x1.bel.size
    try simp at hz_x1
    go_wp2
    go_ret
    exact ⟨rfl, (by repeat (first | exact Below.refl _ _ | refine bel_later _ ?_ | refine bel_alloc ?_ _ | refine bel_set ?_ (by first | omega | (simp; done) | (simp; omega)) _ | refine Below.drew ?_ | assumption))⟩
  · by_cases h2 : Bk.fits x.a x.ws.length = true ∧ 0 ≤ n ∧ n < 8
    · exact stageRefuses_ok n x o t ai to w hx ho ht hai hto (by omega) h2
    · refine stageRefuses_no n x o t ai to w hx ho ht hai hto (by omega) _ rfl ?_
      cases hf : Bk.fits x.a x.ws.length
      · exact .inl rfl
      · rw [hf] at h2
        have h3 : ¬ (0 ≤ n ∧ n < 8) := fun h => h2 ⟨rfl, h⟩
        exact .inr (by omega)
end Go.Proofs.Ytopkncbpkccfbaa
