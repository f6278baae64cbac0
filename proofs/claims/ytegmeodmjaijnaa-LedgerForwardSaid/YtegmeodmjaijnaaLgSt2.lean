/- Layer 23: steps. -/
import Derived.Test.YtegmeodmjaijnaaLgStep
import Derived.Test.YtegmeodmjaijnaaHeld
namespace Go.Proofs.Ytegmeodmjaijnaa
open Go.RowKit
set_option linter.unusedVariables false
set_option linter.unusedSimpArgs false
attribute [local go_sem] Later.cell Later.frozen setCell_twice
def stLst (b : Nat → Bool) : Array Bool := #[true, true, b 0, true, b 1, true, b 2, true, b 3, true, b 4, false, false]
def stRem (b0 b1 b2 b3 b4 : Bool) : List Nat := if b0 && b1 && b2 && b3 && b4 then [11] else (if b0 then [] else [2]) ++ (if b1 then [] else [4]) ++ (if b2 then [] else [6]) ++ (if b3 then [] else [8]) ++ (if b4 then [] else [10])
def stMiss (b : Nat → Bool) : Nat := (b 0).toNat + (b 1).toNat + (b 2).toNat + (b 3).toNat + (b 4).toNat
theorem stRem_mem {b : Nat → Bool} (h : stMiss b ≠ 5) : stRem (b 0) (b 1) (b 2) (b 3) (b 4) ≠ [] ∧ ∀ i ∈ stRem (b 0) (b 1) (b 2) (b 3) (b 4), ∃ j, j < 5 ∧ b j = false ∧ i = 2 + 2 * j := by
  unfold stMiss at h
  generalize h0 : b 0 = b0 at *
  generalize h1 : b 1 = b1 at *
  generalize h2 : b 2 = b2 at *
  generalize h3 : b 3 = b3 at *
  generalize h4 : b 4 = b4 at *
  refine ⟨?_, fun i hi => ?_⟩
  · revert h
    cases b0 <;> cases b1 <;> cases b2 <;> cases b3 <;> cases b4 <;> simp [stRem]
  · have key : (i = 2 ∧ b0 = false) ∨ (i = 4 ∧ b1 = false) ∨ (i = 6 ∧ b2 = false) ∨ (i = 8 ∧ b3 = false) ∨ (i = 10 ∧ b4 = false) := by
      revert hi h
      cases b0 <;> cases b1 <;> cases b2 <;> cases b3 <;> cases b4 <;> simp [stRem] <;> omega
    rcases key with ⟨rfl, rfl⟩ | ⟨rfl, rfl⟩ | ⟨rfl, rfl⟩ | ⟨rfl, rfl⟩ | ⟨rfl, rfl⟩
    · exact ⟨0, by omega, h0, rfl⟩
    · exact ⟨1, by omega, h1, rfl⟩
    · exact ⟨2, by omega, h2, rfl⟩
    · exact ⟨3, by omega, h3, rfl⟩
    · exact ⟨4, by omega, h4, rfl⟩
theorem stLst_set (b : Nat → Bool) {j : Nat} (hj : j < 5) : (stLst b).setIfInBounds (2 + 2 * j) true = stLst (upd b j) := by
  match j, hj with
  | 0, _ => simp [stLst, upd]
  | 1, _ => simp [stLst, upd]
  | 2, _ => simp [stLst, upd]
  | 3, _ => simp [stLst, upd]
  | 4, _ => simp [stLst, upd]
theorem stMiss_upd {b : Nat → Bool} {j : Nat} (hj : j < 5) (hb : b j = false) : stMiss (upd b j) = stMiss b + 1 := by
  match j, hj with
  | 0, _ => simp [stMiss, upd, hb]; omega
  | 1, _ => simp [stMiss, upd, hb]; omega
  | 2, _ => simp [stMiss, upd, hb]; omega
  | 3, _ => simp [stMiss, upd, hb]; omega
  | 4, _ => simp [stMiss, upd, hb]
theorem stMiss_le (b : Nat → Bool) : stMiss b ≤ 5 := by
  have := fun k => Bool.toNat_le (b k)
  have h0 := this 0
  have h1 := this 1
  have h2 := this 2
  have h3 := this 3
  have h4 := this 4
  unfold stMiss
  omega
theorem stAll {b : Nat → Bool} (h : stMiss b = 5) : b 0 = true ∧ b 1 = true ∧ b 2 = true ∧ b 3 = true ∧ b 4 = true := by
  unfold stMiss at h
  generalize b 0 = b0 at *
  generalize b 1 = b1 at *
  generalize b 2 = b2 at *
  generalize b 3 = b3 at *
  generalize b 4 = b4 at *
  revert h
  cases b0 <;> cases b1 <;> cases b2 <;> cases b3 <;> cases b4 <;> simp
theorem inserts_any {md : Region.Mode} {ops : Array Oper} {Q : Exit → Act → World → Prop} {a : Act} {g fuel : Nat} {W : World} (hg : W.heap.size ≤ g)
    (hr : ∀ b0 b1 b2 b3 b4 : Bool, Region.ready md ops #[true, true, b0, true, b1, true, b2, true, b3, true, b4, false, false] = stRem b0 b1 b2 b3 b4)
    (ho : ∀ j p, stepF[j]? = some p → ∃ o y z, ops[2 + 2 * j]? = some o ∧ o.guard = none ∧ o.dst = none ∧ o.op = .insert 54 (.tmp 1) y z ∧ a.eval (.tmp 1) = .map (some g) ∧ a.eval y = fKey p ∧ a.eval z = fVal p)
    (hend : ∀ w', StepMap w' g (fun _ => true) → Below W.heap.size W w' → wpAnyH Try.prog md ops Q (fun _ => True) fuel #[true, true, true, true, true, true, true, true, true, true, true, false, false] a w') :
    ∀ (n : Nat) (b : Nat → Bool) (w' : World), stMiss b + n = 5 → StepMap w' g b → Below W.heap.size W w' → wpAnyH Try.prog md ops Q (fun _ => True) (n + fuel) (stLst b) a w'
  | 0, b, w', hn, hS, hB => by
    obtain ⟨h0, h1, h2, h3, h4⟩ := stAll hn
    have hl : stLst b = #[true, true, true, true, true, true, true, true, true, true, true, false, false] := by simp [stLst, h0, h1, h2, h3, h4]
    rw [hl, Nat.zero_add]
    refine hend w' ?_ hB
    obtain ⟨es, clock, k1, k2, k3⟩ := hS
    refine ⟨es, clock, k1, fun e he => ?_, fun j p hp _ => k3 j p hp ?_⟩
    · obtain ⟨j, p, hp, _, hk⟩ := k2 e he
      exact ⟨j, p, hp, rfl, hk⟩
    · have hj : j < 5 := (List.getElem?_eq_some_iff.1 hp).1
      match j, hj with
      | 0, _ => exact h0
      | 1, _ => exact h1
      | 2, _ => exact h2
      | 3, _ => exact h3
      | 4, _ => exact h4
  | n + 1, b, w', hn, hS, hB => by
    obtain ⟨hne, hmem⟩ := stRem_mem (b := b) (by omega)
    rw [show n + 1 + fuel = (n + fuel) + 1 by omega]
    refine wpAnyH_ready (rs := stRem (b 0) (b 1) (b 2) (b 3) (b 4)) (hr _ _ _ _ _) hne (fun i hi => ?_)
    obtain ⟨j, hj, hbj, rfl⟩ := hmem i hi
    obtain ⟨p, hp⟩ : ∃ p, stepF[j]? = some p := ⟨_, List.getElem?_eq_getElem (show j < stepF.length from hj)⟩
    obtain ⟨o, y, z, h1, h2, h3, h4, h5, h6, h7⟩ := ho j p hp
    obtain ⟨w2, hrun, hS2, hO⟩ := run_insert_step hS hp hbj
    refine wpOp_step h1 (fun K' hK => ?_)
    rw [if_pos (by simp [Region.wanted, h2])]
    unfold Oper.wp
    simp only [execOp, h4, h5, h6, h7, Sem.run_bind, hrun, Sem.run_pure, Result.andThen_ok, h3]
    refine hK _ _ ⟨trivial, ?_⟩
    rw [stLst_set b hj, show a.put o.dst undef = a by rw [h3]; rfl]
    exact inserts_any hg hr ho hend n (upd b j) w2 (by rw [stMiss_upd hj hbj]; omega) hS2 (hB.trans (hO.below (by have := hS.lt; have := hB.size; omega)))
theorem stepMap_new (w : World) (n : Nat) (hn : n = w.heap.size) : StepMap (w.alloc (.map #[] 0)) n (fun _ => false) :=
  ⟨#[], 0, MapIs.new w n hn, by simp, fun j p _ h => by cases h⟩
set_option maxRecDepth 100000 in
set_option maxHeartbeats 400000 in
theorem steps_any (w : World) : Calls Try.prog 31 #[] w fun e w' => ∃ g, e = .returned (.map (some g)) ∧ w.heap.size ≤ g ∧ StepMap w' g (fun _ => true) ∧ Below w.heap.size w w' := by
  have hmm := @run_makeMap Try.prog
  go_enter Try.func31, Try.ntmps31
  go_wp2
  refine wp_region_held_drew (S := (fun _ => True)) (by kernel_rfl) ?_ (fun hHeld => ?_)
  · trivial
  refine takeD (i := 1) (oi := _) (v := ?vv1) (d := some 2) rfl (by kernel_rfl) (by kernel_rfl) (by kernel_rfl) (by kernel_rfl) (fun _ _ _ h => h) (Or.inl ⟨by kernel_rfl, ?_⟩) (by assumption) ?_
  rotate_left 1
  · intro W_ hSw; (try dsimp only at hSw); go_simp; (first | done | with_reducible rfl)
  try simp only [Act.put, List.setIfInBounds_toArray, List.set_cons_zero, List.set_cons_succ]
  refine takeD (i := 3) (oi := _) (v := ?vv2) (d := some 3) rfl (by kernel_rfl) (by kernel_rfl) (by kernel_rfl) (by kernel_rfl) (fun _ _ _ h => h) (Or.inl ⟨by kernel_rfl, ?_⟩) (by assumption) ?_
  rotate_left 1
  · intro W_ hSw; (try dsimp only at hSw); go_simp; (first | done | with_reducible rfl)
  try simp only [Act.put, List.setIfInBounds_toArray, List.set_cons_zero, List.set_cons_succ]
  refine takeD (i := 5) (oi := _) (v := ?vv3) (d := some 4) rfl (by kernel_rfl) (by kernel_rfl) (by kernel_rfl) (by kernel_rfl) (fun _ _ _ h => h) (Or.inl ⟨by kernel_rfl, ?_⟩) (by assumption) ?_
  rotate_left 1
  · intro W_ hSw; (try dsimp only at hSw); go_simp; (first | done | with_reducible rfl)
  try simp only [Act.put, List.setIfInBounds_toArray, List.set_cons_zero, List.set_cons_succ]
  refine takeD (i := 7) (oi := _) (v := ?vv4) (d := some 5) rfl (by kernel_rfl) (by kernel_rfl) (by kernel_rfl) (by kernel_rfl) (fun _ _ _ h => h) (Or.inl ⟨by kernel_rfl, ?_⟩) (by assumption) ?_
  rotate_left 1
  · intro W_ hSw; (try dsimp only at hSw); go_simp; (first | done | with_reducible rfl)
  try simp only [Act.put, List.setIfInBounds_toArray, List.set_cons_zero, List.set_cons_succ]
  refine takeD (i := 9) (oi := _) (v := ?vv5) (d := some 6) rfl (by kernel_rfl) (by kernel_rfl) (by kernel_rfl) (by kernel_rfl) (fun _ _ _ h => h) (Or.inl ⟨by kernel_rfl, ?_⟩) (by assumption) ?_
  rotate_left 1
  · intro W_ hSw; (try dsimp only at hSw); go_simp; (first | done | with_reducible rfl)
  try simp only [Act.put, List.setIfInBounds_toArray, List.set_cons_zero, List.set_cons_succ]
  refine wpAnyH_ready (rs := [0]) (by kernel_rfl) (by simp) ?_
  refine AllReadyH.cons (o := _) rfl (fun K hK => ?_) AllReadyH.nil
  go_simp
  refine hK.out _ _ ?_ (fun hHeld => ?_)
  · trivial
  clear hK K
  try simp only [Act.put]
  try simp only [List.setIfInBounds_toArray]
  try simp only [List.set_cons_succ]
  try simp only [List.set_cons_zero]
  refine inserts_any (W := w) (g := w.heap.size) (fuel := 2) (Nat.le_refl _) ?_ ?_ ?_ 5 (fun _ => false) _ rfl ?_ ?_
  · intro b0 b1 b2 b3 b4
    cases b0 <;> cases b1 <;> cases b2 <;> cases b3 <;> cases b4 <;> kernel_rfl
  · intro j p hp
    have hj : j < 5 := (List.getElem?_eq_some_iff.1 hp).1
    match j, hj with
    | 0, _ | 1, _ | 2, _ | 3, _ | 4, _ =>
      obtain rfl := Option.some.inj hp
      exact ⟨_, _, _, rfl, rfl, rfl, rfl, rfl, rfl, rfl⟩
  · intro w1 hS hB
    have HS := Lib.hid hS
    have HB := Lib.hid hB
    clear hS hB
    have hHeld := True.intro
    refine takeD (i := 11) (oi := _) (v := ?vv6) (d := some 7) rfl (by kernel_rfl) (by kernel_rfl) (by kernel_rfl) (by kernel_rfl) (fun _ _ _ h => h) (Or.inl ⟨by kernel_rfl, ?_⟩) (by assumption) ?_
    rotate_left 1
    · intro W_ hSw; (try dsimp only at hSw); go_simp; (first | done | with_reducible rfl)
    try simp only [Act.put, List.setIfInBounds_toArray, List.set_cons_zero, List.set_cons_succ]
    refine takeD (i := 12) (oi := _) (v := ?vv7) (d := some 0) rfl (by kernel_rfl) (by kernel_rfl) (by kernel_rfl) (by kernel_rfl) (fun _ _ _ h => h) (Or.inl ⟨by kernel_rfl, ?_⟩) (by assumption) ?_
    rotate_left 1
    · intro W_ hSw; (try dsimp only at hSw); go_simp; (first | done | with_reducible rfl)
    try simp only [Act.put, List.setIfInBounds_toArray, List.set_cons_zero, List.set_cons_succ]
    refine wpAnyH_done (by kernel_rfl) ?_ _
    go_wp2
    go_ret
    exact ⟨_, rfl, Nat.le_refl _, HS.out, HB.out⟩
  · exact (stepMap_new w _ rfl).to (Below.refl _ _).drew
  · exact (bel_alloc (Below.refl _ _) _).drew
end Go.Proofs.Ytegmeodmjaijnaa
