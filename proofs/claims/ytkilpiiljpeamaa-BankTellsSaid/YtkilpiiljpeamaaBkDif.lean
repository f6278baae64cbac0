/- The addresses where two banks differ: the iterator that bank.differ hands back. -/
import Derived.RangeFuncNested
import Derived.RangeFuncBound
import Derived.RangeFuncCalls
import Derived.RangeFuncLeaves
import Derived.RangeFuncBox
import Derived.Shelf.Abstract
import Derived.Shelf.RegionOpen
import Derived.WalkKit
import Derived.OwnWalkIn
import Derived.TacticsInMore
import Derived.LoopNIn
import Derived.LoopIn
import Derived.Test.YtkilpiiljpeamaaBlk
namespace Go.Proofs.Ytkilpiiljpeamaa
open Go.RowKit Go.Shelf
set_option linter.unusedVariables false
attribute [local go_sem] Oper.semAt_some
/-- the first addresses where a and b differ -/
def difs (a b : List Nat) (k : Nat) : List Nat := (List.range k).filter fun i => decide (a[i]?.getD 0 ≠ b[i]?.getD 0)
theorem difs_succ (a b : List Nat) (k : Nat) : difs a b (k + 1) = if a[k]?.getD 0 = b[k]?.getD 0 then difs a b k else difs a b k ++ [k] := by
  unfold difs
  rw [List.range_succ, List.filter_append]
  by_cases h : a[k]?.getD 0 = b[k]?.getD 0 <;> simp [h]
theorem difs_length (a b : List Nat) (k : Nat) : (difs a b k).length ≤ k := by
  have := List.length_filter_le (fun i => decide (a[i]?.getD 0 ≠ b[i]?.getD 0)) (List.range k)
  simpa [difs] using this
theorem drewN_heap (w : World) (n : Nat) : (w.drewN n).heap = w.heap ∧ (w.drewN n).os = w.os ∧ (w.drewN n).tape = w.tape ∧ (w.drewN n).output = w.output := by
  induction n generalizing w with
  | zero => exact ⟨rfl, rfl, rfl, rfl⟩
  | succ n ih => exact ih w.drew
theorem drewN_same (w : World) (n : Nat) : w.grownBy (w.drewN n) none := by
  obtain ⟨h1, h2, h3, h4⟩ := drewN_heap w n
  exact ⟨h2, h3, h4, by rw [h1]; exact Nat.le_refl _, fun k _ _ => by rw [h1]⟩
set_option maxRecDepth 100000 in
set_option maxHeartbeats 2000000 in
theorem differ1_in (n : Nat) (hn : 1 ≤ n) (l Ba Bb ba oa bb ob ca cb : Nat) (a b : List Nat) (Kp : World → World → Prop) (hKp : ∀ A B, Kp A B → ∀ j, j = Ba ∨ j = Bb ∨ j = ba ∨ j = bb → B.heap[j]? = A.heap[j]?) (J : List Nat → World → Prop)
    (hY : ∀ pre x W, J pre W → (x < 64 ∧ pre = difs a b x ∧ a[x]?.getD 0 ≠ b[x]?.getD 0) → YieldAt Fence.wide (n - 1) Try.prog l #[.int .i64 ((x : Nat) : Int)] W fun e W' =>
      e = .returned (.bool true) ∧ J (pre ++ [x]) W' ∧ Kp W W')
    (hJd : ∀ s A B, J s A → A.grownBy B none → J s B) (W : World) (hBa : W.cell? ⟨Ba, 0, none⟩ = some (.slice (some ⟨ba, oa, none⟩) 64 ca)) (hBb : W.cell? ⟨Bb, 0, none⟩ = some (.slice (some ⟨bb, ob, none⟩) 64 cb))
    (ha : ∀ j, j < 64 → W.cell? ⟨ba, oa + j, none⟩ = some (.int .u16 ((a[j]?.getD 0 : Nat) : Int))) (hb : ∀ j, j < 64 → W.cell? ⟨bb, ob + j, none⟩ = some (.int .u16 ((b[j]?.getD 0 : Nat) : Int))) (h0 : J [] W) :
    CallsIn Fence.wide n Try.prog 33 #[.func (.yield l) #[] #[], .pointer (some ⟨Ba, 0, none⟩), .pointer (some ⟨Bb, 0, none⟩)] W fun e W' => (∃ v, e = .returned v) ∧ ∃ ys, ys = difs a b 64 ∧ J ys W' := by
  refine callsIn_of_wp Try.func33 rfl trivial ?_ rfl
  simp only [Try.ntmps33, List.size_toArray, List.length_cons, List.length_nil, Nat.reduceAdd, Nat.reduceSub, Array.replicate_succ, Array.replicate_zero, List.push_toArray, List.append_toArray, List.nil_append, List.cons_append]
  have hmix : Try.prog.follows .mixedOrders = true := by kernel_rfl
  gi_wp2
  gi_loopw [7] (fun i wr => ∃ k : Nat, k ≤ 64 ∧ i = .int .i64 k ∧ J (difs a b k) wr ∧ ∀ j, j = Ba ∨ j = Bb ∨ j = ba ∨ j = bb → wr.heap[j]? = W.heap[j]?)
    (fun i _ => 64 - (intOf i).toNat)
  case atStart => exact ⟨0, Nat.zero_le _, rfl, h0, fun _ _ => rfl⟩
  case round =>
    obtain ⟨k, hk, rfl, hJs, hnx⟩ := hrel
    have hsame : ∀ j o, (j = Ba ∨ j = Bb ∨ j = ba ∨ j = bb) → wr.cell? ⟨j, o, none⟩ = W.cell? ⟨j, o, none⟩ := fun j o hj => World.cell?_of_block (a := ⟨j, o, none⟩) (hnx j hj)
    by_cases hlt : k < 64
    · have c1 := (hsame Ba 0 (.inl rfl)).trans hBa
      have c2 := (hsame Bb 0 (.inr (.inl rfl))).trans hBb
      have c3 := (hsame ba (oa + k) (.inr (.inr (.inl rfl)))).trans (ha k hlt)
      have c4 := (hsame bb (ob + k) (.inr (.inr (.inr rfl)))).trans (hb k hlt)
      have hkI : (k : Int) < 64 := by omega
      have h0I : (0 : Int) ≤ (k : Int) := by omega
      have hds := difs_succ a b k
      by_cases hne : a[k]?.getD 0 = b[k]?.getD 0
      · rw [if_pos hne] at hds
        have gne : (((a[k]?.getD 0 : Nat) : Int) != ((b[k]?.getD 0 : Nat) : Int)) = false := by simp [hne]
        generalize a[k]?.getD 0 = x1 at *
        generalize b[k]?.getD 0 = x2 at *
        clear hsame
        gi_wp2
        refine wpIn_region_quiet_lit rfl (by assumption) (by kernel_rfl) ?_
        repeat (gi_big_quiet_step (fail))
        refine BigFrame.wpQuietIn_skip (fun w _ f hf => trivial) rfl ?_
        simp only [Act.put, List.setIfInBounds_toArray, List.set_cons_succ, List.set_cons_zero]
        repeat (gi_big_quiet_step (fail))
        refine wpQuietIn_nil ?_
        rintro _ ⟨nq, rfl⟩
        gi_wp2
        have hd := drewN_same wr nq
        exact ⟨⟨k + 1, by omega, by go_num, by rw [hds]; exact hJd _ _ _ hJs hd, fun j hj => by
          have h1 : (wr.drewN nq).heap = wr.heap := (drewN_heap wr nq).1
          rw [h1]; exact hnx j hj⟩, by simp [intOf]; omega⟩
      · obtain ⟨fn, tmps, assign, body, hy, hR⟩ := hY _ k wr.drew (hJd _ _ _ hJs ⟨rfl, rfl, rfl, Nat.le_refl _, fun _ _ _ => rfl⟩) ⟨hlt, rfl, hne⟩
        rw [if_neg hne] at hds
        have gne : (((a[k]?.getD 0 : Nat) : Int) != ((b[k]?.getD 0 : Nat) : Int)) = true := by simp; omega
        generalize a[k]?.getD 0 = x1 at *
        generalize b[k]?.getD 0 = x2 at *
        clear hsame
        gi_wp2
        gi_region_with_o (refine hR.mono ?_; rintro e W3 ⟨rfl, hJ3, hk3⟩)
        all_goals gi_wp2
        all_goals exact ⟨⟨k + 1, by omega, by go_num, by rw [hds]; exact hJ3, fun j hj => ((hKp _ _ hk3 j hj).trans (hnx j hj))⟩, by simp [intOf]; omega⟩
    · obtain rfl : k = 64 := by omega
      gi_wp2
      go_end0
      exact ⟨⟨_, rfl⟩, _, rfl, hJs⟩
end Go.Proofs.Ytkilpiiljpeamaa
