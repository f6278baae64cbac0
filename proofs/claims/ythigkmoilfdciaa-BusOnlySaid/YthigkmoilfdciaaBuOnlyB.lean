/- Layer 11: BusOnly: a tick, and what came is met. -/
import Derived.Test.YthigkmoilfdciaaBuOnlyA
namespace Go.Proofs.Ythigkmoilfdciaa
open Go.RowKit
set_option linter.unusedVariables false
set_option linter.unusedSimpArgs false
section
variable {w wr : World} {base gs gm rg rc gL B n c gR br orr n0 c0 : Nat} {b : Bu} {E : List En} {A : Option Addr} {S : List Snt} {U : List Gh} {rl : List Bool}
/-- the closure meets what came -/
def MetQ (w : World) (rl : List Bool) (base gs gm rg rc gL B gR : Nat) (b : Bu) (A : Option Addr) (n c : Nat) (U : List Gh) (e : Ending) (w2 : World) : Prop :=
  ∃ A1 n1 c1, e = .returned (.slice A1 n1 c1) ∧ Below w.heap.size w w2 ∧ (b.l = [] → n1 = 0) ∧ Calls Try.prog 19 #[.slice A1 n1 c1, .pointer (some ⟨gL, 0, none⟩), .pointer (some ⟨gR, 0, none⟩)] w2 (fun e w3 => e = .returned (.bool true) ∧ ∃ E' S', OnlyAt w w3 rl base gs gm rg rc gL B b.tick.1 E' A n c S' (U.filter fun g => decide (g.t ≠ b.time + 1)))
theorem only_tick (h : OnlyAt w wr rl base gs gm rg rc gL B b E A n c S U) (hR : RowAt w gR 22 [.slice (some ⟨br, orr, none⟩) n0 c0]) (hrt : Sq Value.bool w w.heap.size (some ⟨br, orr, none⟩) rl) (hn0 : rl.length = n0) (hbr : br < w.heap.size) (hn : n ≤ 120) (htm : b.time ≤ 1000) (hln : b.l.length ≤ 1000) :
    Calls Try.prog 13 #[.pointer (some ⟨gs, 0, none⟩)] wr (MetQ w rl base gs gm rg rc gL B gR b A n c U) :=
  (tick_any h.bus (by omega) (by omega)).mono fun e w2 hq => by
    obtain ⟨E', A1, n1, c1, pl, rfl, hb, f, came, h5⟩ := hq
    obtain ⟨h6, h7, _⟩ := h5.out
    have hB := h.wB
    have b2 : Below w.heap.size w w2 := h.bk.trans (f.below h.footge h.bk.size)
    have hlen : b.tick.2.length ≤ b.l.length := by
      unfold Bu.tick
      dsimp only
      rw [List.length_map]
      exact List.length_filter_le _ _
    have hn1 : n1 = b.tick.2.length := by rw [← h6, List.length_map, came.len]
    have hI := h.on.tick (b.time + 1)
    have hgR : gR < B := Nat.lt_of_lt_of_le hR.lt hB
    refine ⟨A1, n1, c1, rfl, b2, fun h0 => by rw [h0] at hlen; simp at hlen; rw [hn1, hlen]; rfl, ?_⟩
    refine (met_any w2 (h.mid f) came (hR.to b2) (hrt.below b2 |>.more b2.size) hn0 hI (by rw [h6]; exact h.u.tick.1) hgR (by omega) hn (by omega)).mono fun e w3 hm => ?_
    obtain ⟨rfl, S', hS, hI', hg, hp, f3⟩ := hm
    exact ⟨rfl, E', S', h.met hb f (fun x hx => foot_filter x (by rw [← h7]; exact hx)) hS hI' hg hp f3⟩
end
end Go.Proofs.Ythigkmoilfdciaa
