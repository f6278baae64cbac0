/- Layer 11: BusOnly's state: a bus beside all that was sent. -/
import Derived.Test.YthigkmoilfdciaaBuMetW
namespace Go.Proofs.Ythigkmoilfdciaa
open Go.RowKit
set_option linter.unusedVariables false
set_option linter.unusedSimpArgs false
section
variable {w wr w2 w3 w' : World} {base gs gm rg rc gL B n c n' c' : Nat} {b b' : Bu} {E E' : List En} {A A' : Option Addr} {S S' : List Snt} {U U' : List Gh} {rl : List Bool} {F : List Nat}
/-- a row of another type is no block of a bus -/
theorem BusAt.foot_own {B1 e1 s1 : Nat} {xs : List Value} (h : BusAt w base gs gm rg rc b E) (ho : w.ownsRow B1 e1 s1 (.slice A n c) n xs) (h1 : e1 ≠ 62) (h2 : e1 ≠ 4) (h3 : e1 ≠ 36) (h4 : e1 ≠ 5) : ∀ q, A = some q → q.block ∉ bfoot gs gm rg E := fun q hq hm => by
  have hq0 := (own_at_s ho q hq).2.2
  subst hq
  rw [hq0] at ho
  obtain ⟨es, clock, hmi, _⟩ := h.parts.map
  rcases bfoot_mem.1 hm with e | e | e | ⟨x, hx, e | ⟨p, hp, e⟩⟩
  · exact own_row_ne ho h.row h1 e
  · exact own_map_ne ho hmi e
  · exact own_ne2 ho h.parts.rtu h2 e
  · exact own_ne2 ho (h.parts.own x hx) h3 e
  · exact own_ne2 ho (h.parts.byt x hx p hp) h4 e
/-- all that was sent, where some blocks changed -/
theorem Alls.fr (h : Alls w B gL A n c S) (k : Fr F w w') (h1 : gL ∉ F) (h2 : ∀ p, A = some p → p.block ∉ F) (h3 : ∀ y ∈ S, ∀ p, y.p.A = some p → p.block ∉ F) : Alls w' B gL A n c S :=
  ⟨k.row h.var h1, h.len, k.own h.own h2, fun x hx => k.own (h.byt x hx) (h3 x hx), h.gl⟩
/-- one more is sent: the row grew, the variable is stored -/
theorem Alls.push {y : Snt} (h : Alls w B gL A n c S) (ho : w2.ownsRow B 56 11 (.slice A' (n + 1) c') (n + 1) ((S ++ [y]).flatMap sntF)) (g : w.grownBy w2 (Value.slice A n c).ownBlock) (k : Only gL w2 w3) (r : RowAt w3 gL 52 [.slice A' (n + 1) c']) (hy : w.ownsRow B 5 1 (.slice y.p.A y.p.p.b.length y.p.c) y.p.p.b.length (y.p.p.b.map byw)) : Alls w3 B gL A' (n + 1) c' (S ++ [y]) := by
  refine ⟨r, by rw [List.length_append, h.len]; rfl, own_only_w k ho h.gl, fun x hx => ?_, h.gl⟩
  have hx' : w.ownsRow B 5 1 (.slice x.p.A x.p.p.b.length x.p.c) x.p.p.b.length (x.p.p.b.map byw) := by
    rcases List.mem_append.1 hx with hx | hx
    · exact h.byt x hx
    · obtain rfl := List.mem_singleton.1 hx
      exact hy
  exact own_only_w k (own_grown_w hx' g (own_ne_w hx' h.own (by decide))) h.gl
/-- the law's state -/
structure OnlyAt (w wr : World) (rl : List Bool) (base gs gm rg rc gL B : Nat) (b : Bu) (E : List En) (A : Option Addr) (n c : Nat) (S : List Snt) (U : List Gh) : Prop where
  bus : BusAt wr base gs gm rg rc b E
  all : Alls wr B gL A n c S
  off : ∀ y ∈ S, ∀ p, y.p.A = some p → p.block ∉ bfoot gs gm rg E
  glo : gL ∉ bfoot gs gm rg E
  u : BusU rl b S U
  on : OnI rl S U
  bk : Below w.heap.size w wr
  hb : w.heap.size ≤ base
  hB : w.heap.size ≤ gL
theorem OnlyAt.to (h : OnlyAt w wr rl base gs gm rg rc gL B b E A n c S U) (k : Below wr.heap.size wr w') : OnlyAt w w' rl base gs gm rg rc gL B b E A n c S U :=
  ⟨h.bus.to k, h.all.to k, h.off, h.glo, h.u, h.on, h.bk.trans (k.mono h.bk.size), h.hb, h.hB⟩
theorem OnlyAt.aoff (h : OnlyAt w wr rl base gs gm rg rc gL B b E A n c S U) : ∀ p, A = some p → p.block ∉ bfoot gs gm rg E := h.bus.foot_own h.all.own (by decide) (by decide) (by decide) (by decide)
theorem OnlyAt.wB (h : OnlyAt w wr rl base gs gm rg rc gL B b E A n c S U) : w.heap.size ≤ B := Nat.le_of_lt (Nat.lt_of_le_of_lt h.hB h.all.gl)
theorem OnlyAt.footge (h : OnlyAt w wr rl base gs gm rg rc gL B b E A n c S U) : ∀ x, x ∈ bfoot gs gm rg E → w.heap.size ≤ x := fun x hx => Nat.le_trans h.hb (h.bus.foot_ge x hx).1
theorem OnlyAt.mid (h : OnlyAt w wr rl base gs gm rg rc gL B b E A n c S U) (f : Fr (bfoot gs gm rg E) wr w2) : Alls w2 B gL A n c S := h.all.fr f h.glo h.aoff h.off
theorem snt_p {S S' : List Snt} (h : S'.map Snt.p = S.map Snt.p) : ∀ y ∈ S', ∃ x ∈ S, x.p = y.p := fun y hy => by
  have : y.p ∈ S'.map Snt.p := List.mem_map.2 ⟨y, hy, rfl⟩
  rw [h] at this
  exact List.mem_map.1 this
/-- a tick, and what came is met -/
theorem OnlyAt.met (h : OnlyAt w wr rl base gs gm rg rc gL B b E A n c S U) (hb : BusAt w2 base gs gm rg rc b.tick.1 E') (f : Fr (bfoot gs gm rg E) wr w2) (t : ∀ x, x ∈ bfoot gs gm rg E' → x ∈ bfoot gs gm rg E)
    (hS : Alls w3 B gL A n c S') (hI : OnI rl S' (U.filter fun g => decide (g.t ≠ b.time + 1))) (hg : ∀ g, gpar rl S' g = gpar rl S g) (hp : S'.map Snt.p = S.map Snt.p) (f3 : Fr (rowB A) w2 w3) : OnlyAt w w3 rl base gs gm rg rc gL B b.tick.1 E' A n c S' (U.filter fun g => decide (g.t ≠ b.time + 1)) := by
  refine ⟨hb.fr f3 (fun x hx hm => ?_), hS, fun y hy p hpp hm => ?_, fun hm => h.glo (t _ hm), h.u.tick.2 S' hg, hI, (h.bk.trans (f.below h.footge h.bk.size)).trans (f3.below (fun x hm => ?_) ?_), h.hb, h.hB⟩
  · obtain ⟨q, hq, rfl⟩ := rowB_mem hm
    exact h.aoff q hq (t _ hx)
  · obtain ⟨x, hx, e⟩ := snt_p hp y hy
    exact h.off x hx p (by rw [e]; exact hpp) (t _ hm)
  · obtain ⟨q, hq, rfl⟩ := rowB_mem hm
    exact Nat.le_trans h.wB (own_at_s h.all.own q hq).1
  · exact Nat.le_trans h.bk.size f.size
/-- a parcel that the bus takes: behind Send and the append -/
theorem OnlyAt.sent {wa wb : World} (y : Pc) (f : Fa) (h : OnlyAt w wr rl base gs gm rg rc gL B b E A n c S U)
    (hy : wr.ownsRow B 5 1 (.slice y.A y.p.b.length y.c) y.p.b.length (y.p.b.map byw)) (hyo : ∀ q, y.A = some q → q.block ∉ bfoot gs gm rg E)
    (hr : Bu.right b.rtu.length y.p = true) (hok : SOk rl n ⟨y, f, 0, 0⟩)
    (hb : BusAt w2 base gs gm rg rc (sendB b y.p f) E') (fr : Fr (bfoot gs gm rg E) wr w2) (t : ∀ x, x ∈ bfoot gs gm rg E' → x ∈ bfoot gs gm rg E ∨ wr.heap.size ≤ x)
    (ho : wa.ownsRow B 56 11 (.slice A' (n + 1) c') (n + 1) ((S ++ [(⟨y, f, 0, 0⟩ : Snt)]).flatMap sntF)) (g : w2.grownBy wa (Value.slice A n c).ownBlock) (k : Only gL wa wb) (r : RowAt wb gL 52 [.slice A' (n + 1) c']) :
    OnlyAt w wb rl base gs gm rg rc gL B (sendB b y.p f) E' A' (n + 1) c' (S ++ [⟨y, f, 0, 0⟩]) (U ++ news b.time n f) := by
  have hS2 := h.mid fr
  have hsb : sendB b y.p f = b.send y.p f := by unfold sendB; rw [if_pos hr]
  have hyl : ∀ q, y.A = some q → q.block < wr.heap.size := fun q hq => (own_at_s hy q hq).2.1
  have a2 := hb.foot_own hS2.own (by decide) (by decide) (by decide) (by decide)
  have glt : gL < wr.heap.size := h.all.var.lt
  have hgl2 : gL ∉ bfoot gs gm rg E' := fun hm => by
    rcases t _ hm with h1 | h1
    · exact h.glo h1
    · omega
  have fa := Fr.of_app g
  have fk : Fr [gL] wa wb := Fr.of_only k (List.mem_singleton.2 rfl)
  refine ⟨(hb.fr fa (fun x hx hm => ?_)).fr fk (fun x hx hm => ?_), hS2.push ho g k r (fr.own hy hyo), fun z hz q hq hm => ?_, hgl2, ?_, ?_, ((h.bk.trans (fr.below h.footge h.bk.size)).trans (fa.below (fun x hm => ?_) (Nat.le_trans h.bk.size fr.size))).trans (k.below h.hB), h.hb, h.hB⟩
  · obtain ⟨q, hq, rfl⟩ := rowB_mem hm
    exact a2 q hq hx
  · obtain rfl := List.mem_singleton.1 hm
    exact hgl2 hx
  · rcases List.mem_append.1 hz with hz | hz
    · rcases t _ hm with h1 | h1
      · exact h.off z hz q hq h1
      · have := (own_at_s (h.all.byt z hz) q hq).2.1; omega
    · obtain rfl := List.mem_singleton.1 hz
      rcases t _ hm with h1 | h1
      · exact hyo q hq h1
      · have := hyl q hq; omega
  · have := h.u.send (x := ⟨y, f, 0, 0⟩) h.on.lt'
    rw [h.all.len] at this
    rw [hsb]
    exact this
  · have := h.on.send b.time (x := ⟨y, f, 0, 0⟩) (by rw [h.all.len]; exact hok)
    rw [h.all.len] at this
    exact this
  · obtain ⟨q, hq, rfl⟩ := rowB_mem hm
    exact Nat.le_trans h.wB (own_at_s h.all.own q hq).1
/-- a parcel that the bus does not take -/
theorem OnlyAt.kept {p : Par} {f : Fa} (h : OnlyAt w wr rl base gs gm rg rc gL B b E A n c S U) (hr : Bu.right b.rtu.length p = false)
    (hb : BusAt w2 base gs gm rg rc (sendB b p f) E') (fr : Fr (bfoot gs gm rg E) wr w2) (t : ∀ x, x ∈ bfoot gs gm rg E' → x ∈ bfoot gs gm rg E ∨ wr.heap.size ≤ x) : OnlyAt w w2 rl base gs gm rg rc gL B b E' A n c S U := by
  have hsb : sendB b p f = b := sendB_no hr
  rw [hsb] at hb
  refine ⟨hb, h.mid fr, fun z hz q hq hm => ?_, fun hm => ?_, h.u, h.on, h.bk.trans (fr.below h.footge h.bk.size), h.hb, h.hB⟩
  · rcases t _ hm with h1 | h1
    · exact h.off z hz q hq h1
    · have := (own_at_s (h.all.byt z hz) q hq).2.1; omega
  · rcases t _ hm with h1 | h1
    · exact h.glo h1
    · have := h.all.var.lt; omega
end
end Go.Proofs.Ythigkmoilfdciaa
