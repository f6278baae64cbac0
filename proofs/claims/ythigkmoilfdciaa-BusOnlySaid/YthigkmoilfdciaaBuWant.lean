/- Layer 11: a row of parcels that is wanted, beside a bus. -/
import Derived.Test.YthigkmoilfdciaaBuLight
import Derived.Test.YthigkmoilfdciaaBuAwkW
import Derived.Test.YthigkmoilfdciaaBuNo
namespace Go.Proofs.Ythigkmoilfdciaa
open Go.RowKit
set_option linter.unusedVariables false
set_option linter.unusedSimpArgs false
attribute [local go_sem] Later.cell Later.frozen setCell_twice
def parK : Kind Pc := ⟨pcF, 3, Pc.A, fun x => x.p.b, byw⟩
theorem parK_fine : parK.Fine := ⟨fun _ => rfl, by decide, fun x u hu => by
  simp only [parK, pcF, pmV, List.mem_cons, List.not_mem_nil, or_false] at hu
  rcases hu with rfl | rfl | rfl <;> rfl⟩
theorem Sq.fr' {α : Type} {f : α → Value} {F : List Nat} {w w' : World} {A : Option Addr} {l : List α} (h : Sq f w w.heap.size A l) (k : Fr F w w') (hA : 0 < l.length → ∀ p, A = some p → p.block ∉ F) : Sq f w' w'.heap.size A l := fun hn => by
  obtain ⟨b, o, rfl, hb, hc⟩ := h hn
  exact ⟨b, o, rfl, Nat.lt_of_lt_of_le hb k.size, fun j x hx => (k.cell (p := ⟨b, o + j, none⟩) hb (hA hn ⟨b, o, none⟩ rfl)).trans (hc j x hx)⟩
structure Want (w : World) (wb : Nat) (S : Nat → Prop) (F : List Nat) (A : Option Addr) (n c : Nat) (l : List Pc) : Prop where
  ol : Olist parK w wb 36 A n c l
  apart : ∀ q, A = some q → q.block ∉ F
  safe : ∀ x ∈ l, 0 < x.p.b.length → ∀ q, x.A = some q → S q.block
  u : ∀ x ∈ l, ∀ y ∈ x.p.b, y < 256
  nl : ∀ x ∈ l, x.A = none → x.c = 0
section
variable {w w' : World} {wb n c : Nat} {S : Nat → Prop} {F F' : List Nat} {A : Option Addr} {l : List Pc}
theorem Want.nil (w : World) (wb : Nat) (S : Nat → Prop) (F : List Nat) : Want w wb S F none 0 0 [] := ⟨Olist.nil _ _ _ _, by simp, by simp, by simp, by simp⟩
theorem Want.fr (h : Want w wb S F A n c l) (k : Fr F w w') (hF : ∀ x, x ∈ F' → x ∈ F ∨ w.heap.size ≤ x) (hS : ∀ x, x ∈ F → ¬ S x) : Want w' wb S F' A n c l :=
  ⟨⟨h.ol.len, k.own h.ol.own h.apart, fun a ha => Sq.fr' (h.ol.ok a ha) k (fun hn p hp hm => hS _ hm (h.safe a ha hn p hp)), h.ol.off⟩, fun q hq hm => by
    rcases hF _ hm with h1 | h1
    · exact h.apart q hq h1
    · have := (own_at_s h.ol.own q hq).2.1; omega, h.safe, h.u, h.nl⟩
theorem Want.to (h : Want w wb S F A n c l) (k : Below w.heap.size w w') : Want w' wb S F A n c l := ⟨h.ol.to k, h.apart, h.safe, h.u, h.nl⟩
theorem Want.pcs (h : Want w wb S F A n c l) : Pcs w w.heap.size A l := ⟨h.ol.recs parK_fine, h.ol.ok, h.u, h.nl⟩
/-- the block of a row -/
def rowB (A : Option Addr) : List Nat := match A with | none => [] | some q => [q.block]
theorem rowB_mem {x : Nat} (h : x ∈ rowB A) : ∃ q, A = some q ∧ q.block = x := by
  cases A with
  | none => cases h
  | some q => exact ⟨q, rfl, (List.mem_singleton.1 h).symm⟩
theorem Fr.of_app (h : w.grownBy w' (Value.slice A n c).ownBlock) : Fr (rowB A) w w' := Fr.of_grown h (fun k hk => by
  obtain ⟨p, rfl, rfl⟩ := ownBlock_slice A n c k hk
  exact List.mem_singleton.2 rfl)
/-- one parcel more -/
theorem Want.push (h : Want w wb S F A n c l) (x : Pc) {A' : Option Addr} {c' : Nat} (ol : Olist parK w' wb 36 A' (n + 1) c' (l ++ [x])) (wh : ∀ q, A' = some q → (∃ q0, A = some q0 ∧ q0.block = q.block) ∨ w.heap.size ≤ q.block) (hF : ∀ y, y ∈ F → y < w.heap.size) (hs : 0 < x.p.b.length → ∀ q, x.A = some q → S q.block) (hu : ∀ y ∈ x.p.b, y < 256) (hn : x.A = none → x.c = 0) : Want w' wb S F A' (n + 1) c' (l ++ [x]) := by
  refine ⟨ol, fun q hq hm => ?_, ?_, ?_, ?_⟩
  · rcases wh q hq with ⟨q0, h0, h1⟩ | h1
    · exact h.apart q0 h0 (by rw [h1]; exact hm)
    · have := hF _ hm; omega
  · intro y hy
    rcases List.mem_append.1 hy with hy | hy
    · exact h.safe y hy
    · obtain rfl := List.mem_singleton.1 hy; exact hs
  · intro y hy
    rcases List.mem_append.1 hy with hy | hy
    · exact h.u y hy
    · obtain rfl := List.mem_singleton.1 hy; exact hu
  · intro y hy
    rcases List.mem_append.1 hy with hy | hy
    · exact h.nl y hy
    · obtain rfl := List.mem_singleton.1 hy; exact hn
/-- a bus beside a row that grew -/
theorem BusAt.app {base gs gm rg rc : Nat} {b : Bu} {E : List En} (h : BusAt w base gs gm rg rc b E) (g : w.grownBy w' (Value.slice A n c).ownBlock) (ha : ∀ q, A = some q → q.block ∉ bfoot gs gm rg E) : BusAt w' base gs gm rg rc b E :=
  h.fr (Fr.of_app g) (fun x hx hm => by
    obtain ⟨q, hq, rfl⟩ := rowB_mem hm
    exact ha q hq hx)
variable {base gs gm rg rc : Nat} {b : Bu} {E : List En}
theorem send_wait (h : BusAt w base gs gm rg rc b E) (hb : base ≤ w.heap.size) (s : Int) (up : Bool) (l : List Nat) (A : Option Addr) (m c : Nat) (hm : l.length = m) (hsq : Sq byw w w.heap.size A l) (hnl : A = none → c = 0) (hu : ∀ x ∈ l, x < 256) (hA : 0 < m → ∀ p, A = some p → p.block ∉ bfoot gs gm rg E) (a : Nat) (ha : a < 256) (hln : b.l.length ≤ 90000) (htm : b.time ≤ 100000) :
    Calls Try.prog 16 #[.pointer (some ⟨gs, 0, none⟩), .agg #[.int .i64 s, .bool up, .slice A m c], .agg #[.bool false, .bool false, .int .u8 (a : Int), .int .u8 0, .int .u16 0, .int .u16 0]] w (SendP w base gs gm rg rc b E ⟨s, up, l⟩ ⟨false, false, a, 0, 0, 0⟩) :=
  send_any h hb s up l A m c hm hsq hnl hu hA false false a 0 0 0 ha (by decide) (by decide) (by decide) hln htm
theorem send_calm (h : BusAt w base gs gm rg rc b E) (hb : base ≤ w.heap.size) (s : Int) (up : Bool) (l : List Nat) (A : Option Addr) (m c : Nat) (hm : l.length = m) (hsq : Sq byw w w.heap.size A l) (hnl : A = none → c = 0) (hu : ∀ x ∈ l, x < 256) (hA : 0 < m → ∀ p, A = some p → p.block ∉ bfoot gs gm rg E) (hln : b.l.length ≤ 90000) (htm : b.time ≤ 100000) :
    Calls Try.prog 16 #[.pointer (some ⟨gs, 0, none⟩), .agg #[.int .i64 s, .bool up, .slice A m c], .agg #[.bool false, .bool false, .int .u8 0, .int .u8 0, .int .u16 0, .int .u16 0]] w (SendP w base gs gm rg rc b E ⟨s, up, l⟩ ⟨false, false, 0, 0, 0, 0⟩) :=
  send_any h hb s up l A m c hm hsq hnl hu hA false false 0 0 0 0 (by decide) (by decide) (by decide) (by decide) hln htm
end
theorem sendB_wait {b : Bu} {p : Par} {a : Nat} (h : Bu.right b.rtu.length p = true) : sendB b p ⟨false, false, a, 0, 0, 0⟩ = ⟨b.rtu, b.time, b.l ++ [(b.time + 1 + a, p)]⟩ := by
  unfold sendB Bu.send
  rw [if_pos h]
  simp [Bu.turned_zero]
theorem sendB_no {b : Bu} {p : Par} {f : Fa} (h : Bu.right b.rtu.length p = false) : sendB b p f = b := by
  unfold sendB
  rw [h]
  rfl
theorem sendE_yes {b : Bu} {p : Par} (h : Bu.right b.rtu.length p = true) : sendE b p = 0 := by
  unfold sendE
  rw [h]
  rfl
theorem sendE_no {b : Bu} {p : Par} (h : Bu.right b.rtu.length p = false) : sendE b p = 2 := by
  unfold sendE
  rw [h]
  rfl
/-- a bus under which all comes at the next tick -/
def calm (rtu : List Bool) (t : Nat) (l : List Pc) : Bu := ⟨rtu, t, l.map fun x => (t + 1, x.p)⟩
theorem calm_tick (rtu : List Bool) (t : Nat) (l : List Pc) : (calm rtu t l).tick = (calm rtu (t + 1) [], pars l) := by
  unfold calm Bu.tick pars
  have h1 : (l.map fun x => (t + 1, x.p)).filter (fun q => decide (q.1 ≠ t + 1)) = [] := List.filter_eq_nil_iff.2 (fun q hq => by
    obtain ⟨x, _, rfl⟩ := List.mem_map.1 hq
    simp)
  have h2 : (l.map fun x => (t + 1, x.p)).filter (fun q => decide (q.1 = t + 1)) = l.map fun x => (t + 1, x.p) := List.filter_eq_self.2 (fun q hq => by
    obtain ⟨x, _, rfl⟩ := List.mem_map.1 hq
    simp)
  dsimp only
  rw [h1, h2, List.map_map]
  rfl
theorem calm_send {rtu : List Bool} {t : Nat} {l : List Pc} {x : Pc} (h : Bu.right rtu.length x.p = true) : sendB (calm rtu t l) x.p ⟨false, false, 0, 0, 0, 0⟩ = calm rtu t (l ++ [x]) := by
  rw [sendB_wait (b := calm rtu t l) h]
  unfold calm
  simp
/-- what a Tick hands back, for a bus known by its law -/
def TickQ (w : World) (base gs gm rg rc : Nat) (b : Bu) (l : List Par) (E : List En) (e : Ending) (w' : World) : Prop :=
  ∃ E' A n c pl, e = .returned (.slice A n c) ∧ BusAt w' base gs gm rg rc b E' ∧ Fr (bfoot gs gm rg E) w w' ∧ (∀ x, x ∈ bfoot gs gm rg E' → x ∈ bfoot gs gm rg E) ∧ Pcs w' w'.heap.size A pl ∧ pl.length = n ∧ Hid (pars pl = l)
theorem tick_q {w : World} {base gs gm rg rc : Nat} {b b' : Bu} {l : List Par} {E : List En} (h : BusAt w base gs gm rg rc b E) (ht : b.tick = (b', l)) (htm : b.time ≤ 100000) (hln : b.l.length ≤ 100000) :
    Calls Try.prog 13 #[.pointer (some ⟨gs, 0, none⟩)] w (TickQ w base gs gm rg rc b' l E) :=
  (tick_any h htm hln).mono fun e w' h => by
    obtain ⟨E', A, n, c, pl, he, h1, h3, h4, h5⟩ := h
    obtain ⟨h6, h7, _, _⟩ := h5.out
    rw [ht] at h1 h6
    exact ⟨E', A, n, c, pl.map Pm.pc, he, h1, h3, fun x hx => foot_filter x (by rw [← h7]; exact hx), h4.pcs, by rw [List.length_map]; exact h4.len, Lib.hid (by rw [pars, pc_map, h6])⟩
/-- Same of two rows that read alike -/
theorem psame_same {w : World} {A B : Option Addr} {la lb : List Pc} {na nb ca cb : Nat} {l : List Par} (ha : Pcs w w.heap.size A la) (hb : Pcs w w.heap.size B lb) (hna : la.length = na) (hnb : lb.length = nb) (h1 : Hid (pars la = l)) (h2 : Hid (pars lb = l)) (hn : na ≤ 200000) :
    Calls Try.prog 12 #[.slice A na ca, .slice B nb cb] w fun e w' => e = .returned (.bool true) ∧ Below w.heap.size w w' :=
  (psame_any A B la lb ca cb na nb w hna hnb ha hb hn).mono fun e w' h => ⟨by rw [h.1, h1.out, h2.out, decide_eq_true rfl], h.2⟩
end Go.Proofs.Ythigkmoilfdciaa
