/- What a verb does, of a right agent. -/
import Derived.Test.YtajbghjjpebndaaQ23
namespace Go.Proofs.Ytajbghjjpebndaa
set_option maxRecDepth 100000
open Go.RowKit
set_option linter.unusedVariables false
set_option linter.unusedSimpArgs false
theorem AgB.of {w w' : World} {base : Nat} {A : Option Addr} {c : Nat} {s : Stv} {g : Ag} {e : Ending} (h : AgIs A c s g w base) (he : e = .returned (.agg (agC A c s g).toArray)) (hb : Below w.heap.size w w') : AgB w base g e w' := ⟨A, c, s, he, h.to hb, hb⟩
section
variable {g : Ag} {q : Cmd}
theorem Ag.right.free_is (h : g.right) : Ls.free g.l = decide (g.l.o = 0) := by unfold Ls.free; rw [Ls.counted_of_right h.2.2.2.2.1]
theorem doit_arg (h : q.ow = 0 ∨ q.tx = 0 ∨ q.v < 1 ∨ 4 < q.v) : g.doit q = (g, 2) := by unfold Ag.doit; rw [if_pos h]
theorem doit_owned (h0 : ¬ (q.ow = 0 ∨ q.tx = 0 ∨ q.v < 1 ∨ 4 < q.v)) (h : g.l.o ≠ 0 ∧ g.l.o ≠ q.ow) : g.doit q = (g, 22) := by unfold Ag.doit; rw [if_neg h0, if_pos h]
theorem doit_1 (h0 : ¬ (q.ow = 0 ∨ q.tx = 0 ∨ q.v < 1 ∨ 4 < q.v)) (h : ¬ (g.l.o ≠ 0 ∧ g.l.o ≠ q.ow)) (hv : q.v = 1) : g.doit q = if q.tx ≤ g.la ∨ (g.ph ≠ 0 ∧ q.tx < g.tx) then (g, 23) else if g.ph = 2 ∧ g.tx = q.tx then (g, 0) else (g.claimed q, 0) := by unfold Ag.doit; rw [if_neg h0, if_neg h, if_pos hv]
theorem doit_2 (h0 : ¬ (q.ow = 0 ∨ q.tx = 0 ∨ q.v < 1 ∨ 4 < q.v)) (h : ¬ (g.l.o ≠ 0 ∧ g.l.o ≠ q.ow)) (hv : q.v = 2) : g.doit q = if g.ph = 2 ∧ g.tx = q.tx then (g, 0) else if g.ph ≠ 1 ∨ g.tx ≠ q.tx ∨ ¬ SSW g.S q.n q.ck then (g, 23) else (⟨g.bank, ⟨g.l.o, -1⟩, 2, g.tx, g.la, g.stx, g.S, g.tk⟩, 0) := by unfold Ag.doit; rw [if_neg h0, if_neg h, if_neg (by omega), if_pos hv]
theorem doit_3 (h0 : ¬ (q.ow = 0 ∨ q.tx = 0 ∨ q.v < 1 ∨ 4 < q.v)) (h : ¬ (g.l.o ≠ 0 ∧ g.l.o ≠ q.ow)) (hv : q.v = 3) : g.doit q = if g.la = q.tx then (g, 0) else if g.ph ≠ 2 ∨ g.tx ≠ q.tx then (g, 23) else (⟨Bk.over g.bank (ssThere g.S), ⟨0, 0⟩, 0, 0, q.tx, 0, ss0, g.tk⟩, 0) := by unfold Ag.doit; rw [if_neg h0, if_neg h, if_neg (by omega), if_neg (by omega), if_pos hv]
theorem doit_4 (h0 : ¬ (q.ow = 0 ∨ q.tx = 0 ∨ q.v < 1 ∨ 4 < q.v)) (h : ¬ (g.l.o ≠ 0 ∧ g.l.o ≠ q.ow)) (hv : q.v = 4) : g.doit q = if q.tx ≤ g.la then (g, 23) else if g.ph ≠ 0 ∧ g.tx = q.tx then (g.freed, 0) else (g, 0) := by unfold Ag.doit; rw [if_neg h0, if_neg h, if_neg (by omega), if_neg (by omega), if_neg (by omega)]
theorem take_own {g : Ag} {ow : Nat} (hr : Ls.right g.l = true) (h0 : ow ≠ 0) (h1 : g.l.o = ow) (ht : 1 ≤ g.tk) : (Ls.take g.l ow g.tk).1 = if g.l.l = -1 then g.l else ⟨ow, g.tk⟩ := by
  unfold Ls.take Ls.takeC
  rw [Ls.counted_of_right hr, if_neg (by omega), if_neg (by omega)]
  split <;> rfl
theorem take_free {ow : Nat} {tk : Int} (h0 : ow ≠ 0) (ht : 1 ≤ tk) : (Ls.take ⟨0, 0⟩ ow tk).1 = ⟨ow, tk⟩ := by
  unfold Ls.take Ls.takeC
  rw [Ls.counted_of_right rfl, if_neg (by omega), if_neg (by simp), if_neg (by decide)]
theorem hold_own {g : Ag} {ow : Nat} (hr : Ls.right g.l = true) (h0 : ow ≠ 0) (h1 : g.l.o = ow) : (Ls.hold g.l ow).1 = ⟨ow, -1⟩ := by
  unfold Ls.hold Ls.holdC
  rw [Ls.counted_of_right hr, if_neg h0, if_neg (by omega)]
variable {A : Option Addr} {c base : Nat} {s : Stv} {w : World}
theorem do_1 (h : AgIs A c s g w base) (hb : base ≤ w.heap.size) (hr : g.right) (hq : q.Fit) (hv : q.v = 1) (h0 : ¬ (q.ow = 0 ∨ q.tx = 0 ∨ q.v < 1 ∨ 4 < q.v)) (h1 : ¬ (g.l.o ≠ 0 ∧ g.l.o ≠ q.ow)) (h2 : ¬ (q.tx ≤ g.la ∨ (g.ph ≠ 0 ∧ q.tx < g.tx))) :
    Calls Try.prog 88 #[.agg (agC A c s g).toArray, .agg (cmdL q).toArray] w (AgB w base (g.doit q).1) := by
  have hd := doit_1 h0 h1 hv
  rw [if_neg h2] at hd
  have how : q.ow ≠ 0 := fun e => h0 (.inl e)
  have htx : q.tx ≠ 0 := fun e => h0 (.inr (.inl e))
  by_cases he : q.tx = g.tx
  · have hph : g.ph ≠ 0 ∧ g.l.o ≠ 0 := by
      rcases hr.phases with ⟨_, _, _, a, _⟩ | ⟨a, b, _⟩ | ⟨a, b, _⟩
      · exact absurd (he.trans a) htx
      · exact ⟨by omega, b⟩
      · exact ⟨by omega, b⟩
    have hoo : g.l.o = q.ow := by
      by_cases e : g.l.o = q.ow
      · exact e
      · exact absurd ⟨hph.2, e⟩ h1
    have hL := take_own hr.2.2.2.2.1 how hoo hr.2.1
    refine (agclaim_eq w h q _ hq he hL).mono fun e w' ⟨h3, h4⟩ => ?_
    rw [hd]
    rcases hr.phases with ⟨a, _⟩ | ⟨a, b, b2, _⟩ | ⟨a, b, b2, _⟩
    · exact absurd a hph.1
    · rw [if_neg (by omega)] at h3 ⊢
      have hc : g.claimed q = ⟨g.bank, ⟨q.ow, g.tk⟩, g.ph, g.tx, g.la, g.stx, g.S, g.tk⟩ := by
        unfold Ag.claimed
        rw [if_neg (by omega), he, a, ← hr.2.2.1]
      show AgB w base (g.claimed q) e w'
      rw [hc]
      exact AgB.of (h.with ⟨q.ow, g.tk⟩ g.ph g.tx g.la ⟨hq.ow, h.tk.1, h.tk.2⟩ h.ph h.tx h.la) h3 h4
    · rw [if_pos b2] at h3
      rw [if_pos ⟨a, he.symm⟩]
      exact AgB.of h h3 h4
  · have hL := take_free (tk := g.tk) how hr.2.1
    refine (agclaim_new w h q _ hq he hL).mono fun e w' ⟨h3, h4⟩ => ?_
    rw [hd, if_neg (fun h => he h.2.symm)]
    have hc : g.claimed q = ⟨g.bank, ⟨q.ow, g.tk⟩, 1, q.tx, g.la, q.tx, ss0, g.tk⟩ := by
      unfold Ag.claimed
      rw [if_pos (.inr (fun h => he h.symm))]
    show AgB w base (g.claimed q) e w'
    rw [hc]
    exact AgB.of ⟨h.sq, h.new, h.nl, h.len, h.cap, h.small, h.u, St0_is _ _ _ hq.tx, hq.ow, h.tk, (show (1 : Nat) < 256 by decide), hq.tx, h.la, h.tk⟩ h3 h4
theorem do_2 (h : AgIs A c s g w base) (hb : base ≤ w.heap.size) (hr : g.right) (hq : q.Fit) (hv : q.v = 2) (h0 : ¬ (q.ow = 0 ∨ q.tx = 0 ∨ q.v < 1 ∨ 4 < q.v)) (h1 : ¬ (g.l.o ≠ 0 ∧ g.l.o ≠ q.ow)) (h2 : ¬ (¬ (g.ph = 2 ∧ g.tx = q.tx) ∧ (¬ (g.ph = 1 ∧ g.tx = q.tx) ∨ ¬ SSW g.S q.n q.ck))) :
    Calls Try.prog 90 #[.agg (agC A c s g).toArray, .agg (cmdL q).toArray] w (AgB w base (g.doit q).1) := by
  have hd := doit_2 h0 h1 hv
  have how : q.ow ≠ 0 := fun e => h0 (.inl e)
  have htx : q.tx ≠ 0 := fun e => h0 (.inr (.inl e))
  have hph : (g.ph = 2 ∧ g.tx = q.tx) ∨ (g.ph = 1 ∧ g.tx = q.tx ∧ SSW g.S q.n q.ck) := by
    by_cases x : g.ph = 2 ∧ g.tx = q.tx
    · exact .inl x
    · by_cases y : g.ph = 1 ∧ g.tx = q.tx
      · by_cases z : SSW g.S q.n q.ck
        · exact .inr ⟨y.1, y.2, z⟩
        · exact absurd ⟨x, .inr z⟩ h2
      · exact absurd ⟨x, .inl y⟩ h2
  have ho : g.l.o ≠ 0 := by
    rcases hr.phases with ⟨_, _, _, a, _⟩ | ⟨a, b, _⟩ | ⟨a, b, _⟩
    · omega
    · exact b
    · exact b
  have hoo : g.l.o = q.ow := by
    by_cases e : g.l.o = q.ow
    · exact e
    · exact absurd ⟨ho, e⟩ h1
  have hL := hold_own hr.2.2.2.2.1 how hoo
  refine (agprepare_any w h q _ hq hL).mono fun e w' ⟨h3, h4⟩ => ?_
  rw [hd]
  rcases hph with x | ⟨x, y, z⟩
  · rw [if_pos x]
    have hl : g.l = ⟨q.ow, -1⟩ := by
      rcases hr.phases with ⟨a, _⟩ | ⟨a, _⟩ | ⟨a, b, b2, _⟩
      · omega
      · omega
      · cases hgl : g.l with
        | mk o l =>
          rw [hgl] at hoo b2
          simp only at hoo b2
          rw [hoo, b2]
    have hg : g = ⟨g.bank, ⟨q.ow, -1⟩, 2, g.tx, g.la, g.stx, g.S, g.tk⟩ := by
      cases g
      simp only at hl x
      rw [hl, x.1]
    exact ⟨A, c, s, by rw [← hg] at h3; exact h3, h.to h4, h4⟩
  · rw [if_neg (by omega), if_neg (by intro hh; rcases hh with hh | hh | hh; omega; omega; exact hh z)]
    show AgB w base ⟨g.bank, ⟨g.l.o, -1⟩, 2, g.tx, g.la, g.stx, g.S, g.tk⟩ e w'
    rw [hoo]
    exact AgB.of (h.with ⟨q.ow, -1⟩ 2 g.tx g.la ⟨hq.ow, by show (-9223372036854775808 : Int) ≤ -1; decide, by show (-1 : Int) ≤ 9223372036854775807; decide⟩ (by decide) h.tx h.la) h3 h4
theorem do_3 (h : AgIs A c s g w base) (hb : base ≤ w.heap.size) (hr : g.right) (hq : q.Fit) (hv : q.v = 3) (h0 : ¬ (q.ow = 0 ∨ q.tx = 0 ∨ q.v < 1 ∨ 4 < q.v)) (h1 : ¬ (g.l.o ≠ 0 ∧ g.l.o ≠ q.ow)) (h2 : ¬ (g.la ≠ q.tx ∧ ¬ (g.ph = 2 ∧ g.tx = q.tx))) :
    Calls Try.prog 92 #[.agg (agC A c s g).toArray, .agg (cmdL q).toArray] w (AgB w base (g.doit q).1) := by
  have hd := doit_3 h0 h1 hv
  have e : (g.doit q).1 = if g.la = q.tx then g else ⟨Bk.over g.bank (ssThere g.S), ⟨0, 0⟩, 0, 0, q.tx, 0, ss0, g.tk⟩ := by
    rw [hd]
    by_cases x : g.la = q.tx
    · rw [if_pos x, if_pos x]
    · rw [if_neg x, if_neg x, if_neg]
      intro hh
      exact h2 ⟨x, fun y => by omega⟩
  rw [e]
  exact agcommit_any w h q hq hb hr.1 hr.2.2.2.1
theorem do_4 (h : AgIs A c s g w base) (hb : base ≤ w.heap.size) (hr : g.right) (hq : q.Fit) (hv : q.v = 4) (h0 : ¬ (q.ow = 0 ∨ q.tx = 0 ∨ q.v < 1 ∨ 4 < q.v)) (h1 : ¬ (g.l.o ≠ 0 ∧ g.l.o ≠ q.ow)) (h2 : ¬ (q.tx ≤ g.la)) :
    Calls Try.prog 94 #[.agg (agC A c s g).toArray, .agg (cmdL q).toArray] w (AgB w base (g.doit q).1) := by
  have hd := doit_4 h0 h1 hv
  have how : q.ow ≠ 0 := fun e => h0 (.inl e)
  have htx : q.tx ≠ 0 := fun e => h0 (.inr (.inl e))
  have e : (g.doit q).1 = if g.l.o ≠ q.ow ∨ g.tx ≠ q.tx then g else g.freed := by
    rw [hd, if_neg h2]
    rcases hr.phases with ⟨a, _, _, b, _⟩ | ⟨a, b, _⟩ | ⟨a, b, _⟩
    · rw [if_neg (by omega), if_pos (by omega)]
    · by_cases x : g.tx = q.tx
      · rw [if_pos ⟨by omega, x⟩, if_neg (by omega)]
      · rw [if_neg (fun y => x y.2), if_pos (.inr x)]
    · by_cases x : g.tx = q.tx
      · rw [if_pos ⟨by omega, x⟩, if_neg (by omega)]
      · rw [if_neg (fun y => x y.2), if_pos (.inr x)]
  rw [e]
  exact agabort_any w h q hb
end
end Go.Proofs.Ytajbghjjpebndaa
