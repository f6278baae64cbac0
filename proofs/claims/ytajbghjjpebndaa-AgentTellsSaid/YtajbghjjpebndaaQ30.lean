/- Plain laws of what is done with agents: once, owns, again. l[:n] without cases on nil. -/
import Derived.Test.YtajbghjjpebndaaQ24
import Derived.Test.YtajbghjjpebndaaQ00
namespace Go.Proofs.Ytajbghjjpebndaa
set_option maxRecDepth 100000
set_option linter.unusedVariables false
set_option linter.unusedSimpArgs false
def AOp.commits (o : AOp) (g : Ag) : Prop := o.what % 4 = 0 ∧ o.c.v = 3 ∧ (o.does g).2 = 0 ∧ g.ph = 2 ∧ g.tx = o.c.tx ∧ g.l.o = o.c.ow
section
variable {g : Ag} {q : Cmd} {o : AOp}
theorem cmd_ow (o : AOp) (g : Ag) : (o.cmd g).ow = o.c.ow := by unfold AOp.cmd; split <;> rfl
theorem cmd_v (o : AOp) (g : Ag) : (o.cmd g).v = o.c.v := by unfold AOp.cmd; split <;> rfl
theorem cmd_tx (o : AOp) (g : Ag) : (o.cmd g).tx = o.c.tx := by unfold AOp.cmd; split <;> rfl
theorem doit_zero (g : Ag) (q : Cmd) : (g.doit q).2 = 0 ∨ (g.doit q).1 = g := by
  unfold Ag.doit
  repeat' split
  all_goals first | exact .inr rfl | exact .inl rfl
theorem doit_err (h : (g.doit q).2 ≠ 0) : (g.doit q).1 = g := (doit_zero g q).resolve_left h
theorem put_zero (g : Ag) (ow tx : Nat) (n : Int) (p : Bk.Pr) : (g.put ow tx n p).2 = 0 ∨ (g.put ow tx n p).1 = g := by
  unfold Ag.put
  repeat' split
  all_goals first | exact .inr rfl | exact .inl rfl
theorem put_err {ow tx : Nat} {n : Int} {p : Bk.Pr} (h : (g.put ow tx n p).2 ≠ 0) : (g.put ow tx n p).1 = g := (put_zero g ow tx n p).resolve_left h
theorem does_err (h : (o.does g).2 ≠ 0) : (o.does g).1 = g := by
  unfold AOp.does at h ⊢
  split
  · rename_i h0; rw [if_pos h0] at h; exact doit_err h
  · rename_i h0
    rw [if_neg h0] at h
    split
    · rename_i h1; rw [if_pos h1] at h; exact put_err h
    · rename_i h1
      rw [if_neg h1] at h
      exfalso; apply h; split <;> rfl
theorem tick_keeps (g : Ag) : g.tick.bank = g.bank ∧ g.tick.la = g.la := by
  unfold Ag.tick
  repeat' split
  all_goals exact ⟨rfl, rfl⟩
theorem ticks_keeps (g : Ag) : ∀ n, (g.ticks n).bank = g.bank ∧ (g.ticks n).la = g.la
  | 0 => ⟨rfl, rfl⟩
  | n + 1 => ⟨(tick_keeps _).1.trans (ticks_keeps g n).1, (tick_keeps _).2.trans (ticks_keeps g n).2⟩
theorem put_keeps (g : Ag) (ow tx : Nat) (n : Int) (p : Bk.Pr) : (g.put ow tx n p).1.bank = g.bank ∧ (g.put ow tx n p).1.la = g.la := by
  unfold Ag.put
  repeat' split
  all_goals exact ⟨rfl, rfl⟩
theorem claimed_keeps (g : Ag) (q : Cmd) : (g.claimed q).bank = g.bank ∧ (g.claimed q).la = g.la := by unfold Ag.claimed; split <;> exact ⟨rfl, rfl⟩
theorem doit_keeps (h : ¬ (q.v = 3 ∧ (g.doit q).2 = 0 ∧ g.ph = 2 ∧ g.tx = q.tx ∧ g.l.o = q.ow)) (hr : g.right) : (g.doit q).1.bank = g.bank ∧ (g.doit q).1.la = g.la := by
  by_cases h0 : q.ow = 0 ∨ q.tx = 0 ∨ q.v < 1 ∨ 4 < q.v
  · rw [doit_arg h0]; exact ⟨rfl, rfl⟩
  by_cases h1 : g.l.o ≠ 0 ∧ g.l.o ≠ q.ow
  · rw [doit_owned h0 h1]; exact ⟨rfl, rfl⟩
  by_cases v1 : q.v = 1
  · rw [doit_1 h0 h1 v1]
    repeat' split
    all_goals first | exact ⟨rfl, rfl⟩ | exact claimed_keeps g q
  by_cases v2 : q.v = 2
  · rw [doit_2 h0 h1 v2]
    repeat' split
    all_goals exact ⟨rfl, rfl⟩
  by_cases v3 : q.v = 3
  · rw [doit_3 h0 h1 v3] at h ⊢
    by_cases a : g.la = q.tx
    · rw [if_pos a]; exact ⟨rfl, rfl⟩
    rw [if_neg a] at h ⊢
    by_cases b : g.ph ≠ 2 ∨ g.tx ≠ q.tx
    · rw [if_pos b]; exact ⟨rfl, rfl⟩
    rw [if_neg b] at h ⊢
    exfalso
    apply h
    refine ⟨v3, rfl, by omega, by omega, ?_⟩
    rcases hr.phases with ⟨x, _⟩ | ⟨x, _⟩ | ⟨x, y, _⟩ <;> omega
  · rw [doit_4 h0 h1 (by omega)]
    repeat' split
    all_goals exact ⟨rfl, rfl⟩
theorem does_keeps (hr : g.right) (h : ¬ o.commits g) : (o.does g).1.bank = g.bank ∧ (o.does g).1.la = g.la := by
  unfold AOp.commits at h
  unfold AOp.does at h ⊢
  by_cases m0 : o.what % 4 = 0
  · rw [if_pos m0] at h ⊢
    refine doit_keeps ?_ hr
    rw [cmd_v, cmd_tx, cmd_ow]
    exact fun x => h ⟨m0, x.1, x.2.1, x.2.2.1, x.2.2.2.1, x.2.2.2.2⟩
  rw [if_neg m0]
  by_cases m1 : o.what % 4 = 1
  · rw [if_pos m1]; exact put_keeps _ _ _ _ _
  rw [if_neg m1]
  by_cases m2 : o.what % 4 = 2
  · rw [if_pos m2]; exact ticks_keeps _ _
  rw [if_neg m2]
  unfold Ag.boot
  split <;> exact ⟨rfl, rfl⟩
theorem does_commits (hr : g.right) (h : o.commits g) : (o.does g).1 = ⟨Bk.over g.bank (ssThere g.S), ⟨0, 0⟩, 0, 0, g.tx, 0, ss0, g.tk⟩ ∧ g.la < g.tx := by
  obtain ⟨m0, h1, h2, h3, h4, h5⟩ := h
  have hlt : g.la < g.tx ∧ g.l.o ≠ 0 := by rcases hr.phases with ⟨x, _⟩ | ⟨x, _⟩ | ⟨x, y, z, a, _⟩ <;> omega
  refine ⟨?_, hlt.1⟩
  unfold AOp.does at h2 ⊢
  rw [if_pos m0] at h2 ⊢
  have ev := cmd_v o g
  have et := cmd_tx o g
  have eo := cmd_ow o g
  rw [doit_3 (by omega) (by omega) (by omega), if_neg (by omega), if_neg (by omega), et, ← h4]
/-- nothing that another one does -/
theorem does_other (hr : g.right) (hp : g.ph ≠ 0) (hw : o.what = 0 ∨ o.what = 1) (ho : o.c.ow ≠ g.l.o) : o.does g = (g, 22) ∨ o.does g = (g, 2) := by
  have h0 : g.l.o ≠ 0 := by rcases hr.phases with ⟨x, _⟩ | ⟨x, y, _⟩ | ⟨x, y, _⟩ <;> omega
  have ev := cmd_v o g
  have et := cmd_tx o g
  have eo := cmd_ow o g
  unfold AOp.does
  rcases hw with hw | hw
  · rw [if_pos (by omega)]
    by_cases a : (o.cmd g).ow = 0 ∨ (o.cmd g).tx = 0 ∨ (o.cmd g).v < 1 ∨ 4 < (o.cmd g).v
    · rw [doit_arg a]; exact .inr rfl
    · rw [doit_owned a ⟨h0, by omega⟩]; exact .inl rfl
  · rw [if_neg (by omega), if_pos (by omega)]
    unfold Ag.put
    split
    · exact .inr rfl
    · rw [if_pos ⟨h0, by omega⟩]; exact .inl rfl
/-- a command that was done may come again -/
theorem doit_again (hr : g.right) (h : (g.doit q).2 = 0) : (q.v = 1 ∨ q.v = 2 ∨ q.v = 3 ∨ q.v = 4) ∧ (g.doit q).1.doit q = ((g.doit q).1, 0) := by
  by_cases h0 : q.ow = 0 ∨ q.tx = 0 ∨ q.v < 1 ∨ 4 < q.v
  · rw [doit_arg h0] at h; exact absurd h (by show ¬ (2 : Int) = 0; decide)
  by_cases h1 : g.l.o ≠ 0 ∧ g.l.o ≠ q.ow
  · rw [doit_owned h0 h1] at h; exact absurd h (by show ¬ (22 : Int) = 0; decide)
  refine ⟨by omega, ?_⟩
  have how : q.ow ≠ 0 := fun e => h0 (.inl e)
  have htx : q.tx ≠ 0 := fun e => h0 (.inr (.inl e))
  by_cases v1 : q.v = 1
  · rw [doit_1 h0 h1 v1] at h ⊢
    by_cases a : q.tx ≤ g.la ∨ (g.ph ≠ 0 ∧ q.tx < g.tx)
    · rw [if_pos a] at h; exact absurd h (by show ¬ (23 : Int) = 0; decide)
    rw [if_neg a] at h ⊢
    by_cases b : g.ph = 2 ∧ g.tx = q.tx
    · rw [if_pos b]
      show g.doit q = (g, 0)
      rw [doit_1 h0 h1 v1, if_neg a, if_pos b]
    rw [if_neg b]
    show (g.claimed q).doit q = (g.claimed q, 0)
    have hc : (g.claimed q).l = ⟨q.ow, g.tk⟩ ∧ (g.claimed q).ph = 1 ∧ (g.claimed q).tx = q.tx ∧ (g.claimed q).stx = q.tx ∧ (g.claimed q).la = g.la ∧ (g.claimed q).tk = g.tk := by
      unfold Ag.claimed; split <;> exact ⟨rfl, rfl, rfl, rfl, rfl, rfl⟩
    obtain ⟨c1, c2, c3, c4, c5, c6⟩ := hc
    have c1o : (g.claimed q).l.o = q.ow := by rw [c1]
    rw [doit_1 h0 (by omega) v1, if_neg (by omega), if_neg (by omega)]
    have : (g.claimed q).claimed q = g.claimed q := by
      generalize g.claimed q = z at *
      unfold Ag.claimed
      rw [if_neg (by omega)]
      obtain ⟨b, l, ph, tx, la, stx, S, tk⟩ := z
      simp only at c1 c2 c3 c4 c5 c6
      rw [c1, c2, c3, c4, c6]
    rw [this]
  by_cases v2 : q.v = 2
  · rw [doit_2 h0 h1 v2] at h ⊢
    by_cases a : g.ph = 2 ∧ g.tx = q.tx
    · rw [if_pos a] at h ⊢
      show g.doit q = (g, 0)
      rw [doit_2 h0 h1 v2, if_pos a]
    rw [if_neg a] at h ⊢
    by_cases b : g.ph ≠ 1 ∨ g.tx ≠ q.tx ∨ ¬ SSW g.S q.n q.ck
    · rw [if_pos b] at h; exact absurd h (by show ¬ (23 : Int) = 0; decide)
    rw [if_neg b]
    rw [doit_2 h0 (by exact h1) v2, if_pos]
    refine ⟨rfl, ?_⟩
    show g.tx = q.tx
    by_cases e : g.tx = q.tx
    · exact e
    · exact absurd (.inr (.inl e)) b
  by_cases v3 : q.v = 3
  · rw [doit_3 h0 h1 v3] at h ⊢
    by_cases a : g.la = q.tx
    · rw [if_pos a]
      show g.doit q = (g, 0)
      rw [doit_3 h0 h1 v3, if_pos a]
    rw [if_neg a] at h ⊢
    by_cases b : g.ph ≠ 2 ∨ g.tx ≠ q.tx
    · rw [if_pos b] at h; exact absurd h (by show ¬ (23 : Int) = 0; decide)
    rw [if_neg b]
    rw [doit_3 h0 (by exact fun x => x.1 rfl) v3, if_pos rfl]
  · have v4 : q.v = 4 := by omega
    rw [doit_4 h0 h1 v4] at h ⊢
    by_cases a : q.tx ≤ g.la
    · rw [if_pos a] at h; exact absurd h (by show ¬ (23 : Int) = 0; decide)
    rw [if_neg a] at h ⊢
    by_cases b : g.ph ≠ 0 ∧ g.tx = q.tx
    · rw [if_pos b]
      rw [doit_4 h0 (by exact fun x => x.1 rfl) v4, if_neg (by exact a), if_neg (by exact fun x => x.1 rfl)]
    · rw [if_neg b]
      show g.doit q = (g, 0)
      rw [doit_4 h0 h1 v4, if_neg a, if_neg b]
/-- behind a commit nothing of an older transaction does anything -/
theorem does_old (hr : g.right) (hp : g.ph = 0) (hl : g.la ≠ 0) (hw : o.what = 0 ∨ o.what = 1) (ht : 1 ≤ o.c.tx ∧ o.c.tx ≤ g.la) : (o.does g).1 = g ∧ ((o.does g).2 = 0 ↔ (o.what = 0 ∧ o.c.v = 3 ∧ o.c.tx = g.la ∧ o.c.ow ≠ 0)) := by
  have h0 : g.l.o = 0 ∧ g.tx = 0 := by rcases hr.phases with ⟨x, y, _, z, _⟩ | ⟨x, y, _⟩ | ⟨x, y, _⟩ <;> omega
  have ev := cmd_v o g
  have et := cmd_tx o g
  have eo := cmd_ow o g
  unfold AOp.does
  rcases hw with hw | hw
  · rw [if_pos (by omega)]
    generalize o.cmd g = q at *
    by_cases a : q.ow = 0 ∨ q.tx = 0 ∨ q.v < 1 ∨ 4 < q.v
    · rw [doit_arg a]; exact ⟨rfl, ⟨fun x => absurd x (by show ¬ (2 : Int) = 0; decide), fun x => by omega⟩⟩
    have b : ¬ (g.l.o ≠ 0 ∧ g.l.o ≠ q.ow) := by omega
    by_cases v1 : q.v = 1
    · rw [doit_1 a b v1, if_pos (by omega)]; exact ⟨rfl, ⟨fun x => absurd x (by show ¬ (23 : Int) = 0; decide), fun x => by omega⟩⟩
    by_cases v2 : q.v = 2
    · rw [doit_2 a b v2, if_neg (by omega), if_pos (by omega)]; exact ⟨rfl, ⟨fun x => absurd x (by show ¬ (23 : Int) = 0; decide), fun x => by omega⟩⟩
    by_cases v3 : q.v = 3
    · rw [doit_3 a b v3]
      by_cases c : g.la = q.tx
      · rw [if_pos c]; exact ⟨rfl, ⟨fun _ => ⟨hw, by omega, by omega, by omega⟩, fun _ => rfl⟩⟩
      · rw [if_neg c, if_pos (by omega)]; exact ⟨rfl, ⟨fun x => absurd x (by show ¬ (23 : Int) = 0; decide), fun x => by omega⟩⟩
    · rw [doit_4 a b (by omega), if_pos (by omega)]; exact ⟨rfl, ⟨fun x => absurd x (by show ¬ (23 : Int) = 0; decide), fun x => by omega⟩⟩
  · rw [if_neg (by omega), if_pos (by omega)]
    unfold Ag.put
    by_cases a : o.c.ow = 0 ∨ o.c.tx = 0
    · rw [if_pos a]; exact ⟨rfl, ⟨fun x => absurd x (by show ¬ (2 : Int) = 0; decide), fun x => by omega⟩⟩
    · rw [if_neg a, if_neg (by omega), if_pos (by omega)]; exact ⟨rfl, ⟨fun x => absurd x (by show ¬ (23 : Int) = 0; decide), fun x => by omega⟩⟩
end
end Go.Proofs.Ytajbghjjpebndaa
namespace Go.Proofs.Ytajbghjjpebndaa
set_option maxRecDepth 100000
open Go.RowKit
theorem sliced_zero (a : Option Addr) (h m s : Nat) : sliced a 0 h m s = .slice a h m := by
  unfold sliced
  rw [Nat.zero_mul, Nat.sub_zero, Nat.sub_zero]
  cases a with
  | none => simp
  | some p => split <;> rfl
end Go.Proofs.Ytajbghjjpebndaa
