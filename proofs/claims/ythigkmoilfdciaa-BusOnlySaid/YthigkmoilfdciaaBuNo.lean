/- Layer 11: a bus that is none. -/
import Derived.Test.YthigkmoilfdciaaBuAwkW
import Derived.Test.YthigkmoilfdciaaBuOpen
namespace Go.Proofs.Ythigkmoilfdciaa
open Go.RowKit
set_option linter.unusedVariables false
set_option linter.unusedSimpArgs false
attribute [local go_sem] Later.cell Later.frozen setCell_twice
/-- nil, or a bus that New did not hand back -/
def NoBus (w : World) (v : Value) : Prop := v = .pointer none ∨ ∃ g, v = .pointer (some ⟨g, 0, none⟩) ∧ RowAt w g 62 [.pointer none, .slice none 0 0, .int .i64 0, .int .i64 0, .map none]
section
variable {w w' : World} {v : Value}
theorem NoBus.to (h : NoBus w v) (k : Below w.heap.size w w') : NoBus w' v := by
  rcases h with h | ⟨g, h, hr⟩
  · exact .inl h
  · exact .inr ⟨g, h, hr.to k⟩
theorem made_none (h : NoBus w v) : Calls Try.prog 23 #[v] w fun e w' => e = .returned (.bool false) ∧ w = w' := by
  rcases h with rfl | ⟨g, rfl, hr⟩
  · exact made_nil w
  · exact made_no g w (hr.cells 0)
set_option maxHeartbeats 400000 in
theorem waiting_none (h : NoBus w v) : Calls Try.prog 17 #[v] w fun e w' => e = .returned (.int .i64 0) ∧ w = w' := by
  have km := Lib.hid (made_none h)
  clear h
  go_enter Try.func17, Try.ntmps17
  go_wp2_with fail
  (with_reducible refine km.out.mono ?_)
  rintro e w1 ⟨rfl, rfl⟩
  go_wp2
  go_ret
  exact ⟨rfl, rfl⟩
set_option maxHeartbeats 400000 in
theorem time_none (h : NoBus w v) : Calls Try.prog 18 #[v] w fun e w' => e = .returned (.int .i64 0) ∧ w = w' := by
  have km := Lib.hid (made_none h)
  clear h
  go_enter Try.func18, Try.ntmps18
  go_wp2_with fail
  (with_reducible refine km.out.mono ?_)
  rintro e w1 ⟨rfl, rfl⟩
  go_wp2
  go_ret
  exact ⟨rfl, rfl⟩
set_option maxHeartbeats 400000 in
theorem tick_none (h : NoBus w v) : Calls Try.prog 13 #[v] w fun e w' => e = .returned (.slice none 0 0) ∧ w = w' := by
  have km := Lib.hid (made_none h)
  clear h
  go_enter Try.func13, Try.ntmps13
  go_wp2_with fail
  (with_reducible refine km.out.mono ?_)
  rintro e w1 ⟨rfl, rfl⟩
  go_wp2
  go_ret
  exact ⟨rfl, rfl⟩
set_option maxHeartbeats 400000 in
theorem send_none (h : NoBus w v) (s : Int) (up : Bool) (A : Option Addr) (m c : Nat) (lost twice : Bool) (wait again at_ turns : Nat) : Calls Try.prog 16 #[v, .agg (pmV s up A m c).toArray, .agg (faV lost twice wait again at_ turns).toArray] w fun e w' => e = .returned (.int .i64 1) ∧ Below w.heap.size w w' := by
  have hb : Below w.heap.size w ((w.alloc (.cells (pmV s up A m c).toArray 36)).alloc (.cells (faV lost twice wait again at_ turns).toArray 39)) := bel_alloc (bel_alloc (Below.refl _ _) _) _
  have km := Lib.hid (made_none (h.to hb))
  have B := Lib.hid hb
  clear h hb
  go_enter Try.func16, Try.ntmps16
  go_wp2_with fail
  (with_reducible refine km.out.mono ?_)
  rintro e w1 ⟨rfl, rfl⟩
  go_wp2
  go_ret
  exact ⟨rfl, B.out⟩
end
end Go.Proofs.Ythigkmoilfdciaa
