/- A region that draws its order, in a round of a range over a function: by the plain laws for such regions. -/
import Derived.Test.YtkilpiiljpeamaaRangeUp
import Derived.Deep.RegionHeld3
import Derived.TacticsInMore
namespace Go.Proofs.Ytkilpiiljpeamaa
open Go.RowKit
set_option linter.unusedVariables false
/-- no 'defer' among the operations -/
def noDefer (ops : Array Oper) : Bool := ops.all fun o => match o.op with | .defer _ => false | _ => true
/-- the way on alone -/
def onward (X : Act → World → Prop) : Exit → Act → World → Prop
  | .normal, a, w => X a w
  | _, _, _ => False
theorem wpOps_round {P : Program} {ops : Array Oper} (hd : noDefer ops = true) (n l : Nat) {Q : Exit → Act → World → Prop} : ∀ (is : List Nat) (a : Act) (w : World),
    wpOps P ops (onward (Q .normal)) is a w → wpOpsIn (Fence.wide.inRound l) n P ops Q is a w
  | [], a, w, h => h
  | i :: is, a, w, h => by
    unfold wpOps at h
    unfold wpOpsIn
    cases ho : ops[i]? with
    | none =>
      rw [ho] at h
      exact wpOps_round hd n l is a w h
    | some o =>
      rw [ho] at h
      dsimp only at h ⊢
      by_cases hw : Region.wanted o (yielded ops a.tmps) = true
      · rw [if_pos hw] at h ⊢
        have hnd : ∀ c, o.op ≠ .defer c := fun c hc => by
          have h1 := Array.all_eq_true'.1 hd o (Array.mem_of_getElem? ho)
          rw [hc] at h1
          cases h1
        rcases h with h | ⟨_, a', w', h⟩
        · refine ⟨fun _ _ => trivial, ?_⟩
          rw [show (Fence.wide.inRound l).round = some l from rfl, Oper.semAt_some l _ _ hnd]
          unfold Oper.wp at h
          cases hx : (execOp a.eval o).run P w with
          | ok v w' =>
            rw [hx] at h
            cases v with
            | value v => exact wpOps_round hd n l is _ _ h
            | skip => exact wpOps_round hd n l is _ _ h
            | defer d => exact wpOps_round hd n l is _ _ h
            | enter f xs =>
              refine ⟨fun h0 => (by cases h0), (CallsIn.inRound l (callsIn_wide.2 h)).mono ?_⟩
              intro e w'' h2
              cases e with
              | returned v => exact wpOps_round hd n l is _ _ h2
              | panicked c => exact h2.elim
              | outgrown => obtain ⟨_, _, h3⟩ := h2; exact h3.elim
            | row r xs =>
              refine ⟨fun h0 => (by cases h0), fun c cs _ => ?_⟩
              obtain ⟨v, w'', h2, s⟩ := h c cs
              exact ⟨v, w'', wpOps_round hd n l is _ _ h2, stepsIn_wide.2 s⟩
            | _ => exact h.elim
          | halt x w' =>
            rw [hx] at h
            cases x with
            | panic v => exact h.elim
            | _ => exact h.elim
        · exact h.elim
      · rw [if_neg hw] at h ⊢
        exact ⟨fun _ _ => trivial, wpOps_round hd n l is _ _ h⟩
theorem wpIn_region_round {P : Program} {id : Nat} {ops : Array Oper} {Q : Exit → Act → World → Prop} {a : Act} {w : World} {n l : Nat} {S : World → Prop} (hm : P.follows .mixedOrders = true) (hd : noDefer ops = true)
    (hS : S w.drew)
    (h : S w.drew → wpAnyH P .any ops (onward (Q .normal)) S ops.size (Array.replicate ops.size false) a w.drew) : (Code.region id ops true).wpIn (Fence.wide.inRound l) n P Q a w :=
  wpIn_region_draw fun t => wpOps_round hd n l _ _ _ (by
    simp only [Region.schedule, hm, Bool.true_or, if_true]
    exact wpAny_sound ops.size t _ a _ (wpAny_of_held _ _ _ _ (h hS)))
end Go.Proofs.Ytkilpiiljpeamaa
