/- Layer 11: awake. -/
import Derived.Test.YthigkmoilfdciaaBuSame
namespace Go.Proofs.Ythigkmoilfdciaa
open Go.RowKit
set_option linter.unusedVariables false
set_option linter.unusedSimpArgs false
attribute [local go_sem] Later.cell Later.frozen setCell_twice
def paA : Par := ⟨0, false, [5, 6]⟩
def paB : Par := ⟨1, false, [5, 6]⟩
def faA : Fa := ⟨false, true, 1, 0, 8, 3⟩
def faB : Fa := ⟨true, true, 0, 0, 0, 0⟩
def aw0 : Bu := ⟨[true, false], 0, []⟩
def aw1 : Bu := sendB aw0 paA faA
def aw2 : Bu := sendB aw1 paB faA
def aw3 : Bu := sendB aw2 paA faB
def aw4 : Bu := aw3.tick.1
def aw5 : Bu := aw4.tick.1
theorem aw3_len : aw3.l.length = 4 := by decide
theorem aw4_is : aw3.tick.2 = [paA, paB] := by decide
theorem aw5_is : aw4.tick.2 = [⟨0, false, [5, 5]⟩, paB] := by decide
theorem aw5_len : aw5.l.length = 0 := by decide
theorem aw5_time : aw5.time = 2 := by decide
structure AwV (w : World) (gf ga gb g5 g6 : Nat) : Prop where
  f : RowAt w gf 39 [.bool false, .bool true, .int .u8 1, .int .u8 0, .int .u16 8, .int .u16 3]
  a : RowAt w ga 36 [.int .i64 0, .bool false, .slice (some ⟨g5, 0, none⟩) 2 2]
  b : RowAt w gb 36 [.int .i64 1, .bool false, .slice (some ⟨g6, 0, none⟩) 2 2]
  ab : RowAt w g5 5 [.int .u8 5, .int .u8 6]
  bb : RowAt w g6 5 [.int .u8 5, .int .u8 6]
section
variable {w w' : World} {gf ga gb g5 g6 base gs gm rg rc : Nat} {E : List En} {F : List Nat}
theorem AwV.fr (h : AwV w gf ga gb g5 g6) (k : Fr F w w') (hF : ∀ x, x ∈ F → x ≠ gf ∧ x ≠ ga ∧ x ≠ gb ∧ x ≠ g5 ∧ x ≠ g6) : AwV w' gf ga gb g5 g6 :=
  ⟨k.row h.f (fun m => (hF _ m).1 rfl), k.row h.a (fun m => (hF _ m).2.1 rfl), k.row h.b (fun m => (hF _ m).2.2.1 rfl), k.row h.ab (fun m => (hF _ m).2.2.2.1 rfl), k.row h.bb (fun m => (hF _ m).2.2.2.2 rfl)⟩
theorem AwV.to (h : AwV w gf ga gb g5 g6) (k : Below w.heap.size w w') : AwV w' gf ga gb g5 g6 := h.fr (F := []) (Fr.of_below _ k) (by simp)
theorem two_bytes {g : Nat} {x y : Nat} (h : RowAt w g 5 [.int .u8 (x : Int), .int .u8 (y : Int)]) : Sq byw w w.heap.size (some ⟨g, 0, none⟩) [x, y] := fun _ => ⟨g, 0, rfl, h.lt, fun j v hj => by
  rw [Nat.zero_add, h.cells j]
  match j, hj with
  | 0, hj => obtain rfl := Option.some.inj hj; rfl
  | 1, hj => obtain rfl := Option.some.inj hj; rfl
  | j + 2, hj => simp at hj⟩
/-- what a Send of the examples leaves -/
def AwP (w : World) (base gs gm rg rc : Nat) (b : Bu) (E : List En) (e : Ending) (w' : World) : Prop :=
  ∃ E', e = .returned (.int .i64 0) ∧ BusAt w' base gs gm rg rc b E' ∧ Fr (bfoot gs gm rg E) w w' ∧ (∀ x, x ∈ bfoot gs gm rg E' → x ∈ bfoot gs gm rg E ∨ w.heap.size ≤ x)
theorem aw_send1 {g : Nat} (h : BusAt w base gs gm rg rc aw0 E) (hb : base ≤ w.heap.size) (hs : RowAt w g 5 [.int .u8 5, .int .u8 6]) (hg : g ∉ bfoot gs gm rg E) :
    Calls Try.prog 16 #[.pointer (some ⟨gs, 0, none⟩), .agg #[.int .i64 0, .bool false, .slice (some ⟨g, 0, none⟩) 2 2], .agg #[.bool false, .bool true, .int .u8 1, .int .u8 0, .int .u16 8, .int .u16 3]] w (AwP w base gs gm rg rc aw1 E) :=
  (send_any h hb 0 false [5, 6] (some ⟨g, 0, none⟩) 2 2 rfl (two_bytes (x := 5) (y := 6) hs) (by simp) (by simp) (fun _ p hp => by obtain rfl := Option.some.inj hp; exact hg) false true 1 0 8 3 (by decide) (by decide) (by decide) (by decide) (by decide) (by decide)).mono fun e w' ⟨E', he, r⟩ => ⟨E', he, r⟩
theorem aw_send2 {g : Nat} (h : BusAt w base gs gm rg rc aw1 E) (hb : base ≤ w.heap.size) (hs : RowAt w g 5 [.int .u8 5, .int .u8 6]) (hg : g ∉ bfoot gs gm rg E) :
    Calls Try.prog 16 #[.pointer (some ⟨gs, 0, none⟩), .agg #[.int .i64 1, .bool false, .slice (some ⟨g, 0, none⟩) 2 2], .agg #[.bool false, .bool true, .int .u8 1, .int .u8 0, .int .u16 8, .int .u16 3]] w (AwP w base gs gm rg rc aw2 E) :=
  (send_any h hb 1 false [5, 6] (some ⟨g, 0, none⟩) 2 2 rfl (two_bytes (x := 5) (y := 6) hs) (by simp) (by simp) (fun _ p hp => by obtain rfl := Option.some.inj hp; exact hg) false true 1 0 8 3 (by decide) (by decide) (by decide) (by decide) (by decide) (by decide)).mono fun e w' ⟨E', he, r⟩ => ⟨E', he, r⟩
theorem aw_send3 {g : Nat} (h : BusAt w base gs gm rg rc aw2 E) (hb : base ≤ w.heap.size) (hs : RowAt w g 5 [.int .u8 5, .int .u8 6]) (hg : g ∉ bfoot gs gm rg E) :
    Calls Try.prog 16 #[.pointer (some ⟨gs, 0, none⟩), .agg #[.int .i64 0, .bool false, .slice (some ⟨g, 0, none⟩) 2 2], .agg #[.bool true, .bool true, .int .u8 0, .int .u8 0, .int .u16 0, .int .u16 0]] w (AwP w base gs gm rg rc aw3 E) :=
  (send_any h hb 0 false [5, 6] (some ⟨g, 0, none⟩) 2 2 rfl (two_bytes (x := 5) (y := 6) hs) (by simp) (by simp) (fun _ p hp => by obtain rfl := Option.some.inj hp; exact hg) true true 0 0 0 0 (by decide) (by decide) (by decide) (by decide) (by decide) (by decide)).mono fun e w' ⟨E', he, r⟩ => ⟨E', he, r⟩
theorem aw_wait4 (h : BusAt w base gs gm rg rc aw3 E) : Calls Try.prog 17 #[.pointer (some ⟨gs, 0, none⟩)] w fun e w' => e = .returned (.int .i64 4) ∧ w = w' := by
  have k := waiting_yes h
  rw [aw3_len] at k
  exact k
theorem aw_wait0 (h : BusAt w base gs gm rg rc aw5 E) : Calls Try.prog 17 #[.pointer (some ⟨gs, 0, none⟩)] w fun e w' => e = .returned (.int .i64 0) ∧ w = w' := by
  have k := waiting_yes h
  rw [aw5_len] at k
  exact k
theorem aw_time2 (h : BusAt w base gs gm rg rc aw5 E) : Calls Try.prog 18 #[.pointer (some ⟨gs, 0, none⟩)] w fun e w' => e = .returned (.int .i64 2) ∧ w = w' := by
  have k := time_yes h
  rw [aw5_time] at k
  exact k
/-- what a Tick of the examples leaves -/
def AwT (w : World) (base gs gm rg rc : Nat) (b : Bu) (l : List Par) (E : List En) (e : Ending) (w' : World) : Prop :=
  ∃ E' A c pl, e = .returned (.slice A 2 c) ∧ BusAt w' base gs gm rg rc b E' ∧ Fr (bfoot gs gm rg E) w w' ∧ (∀ x, x ∈ bfoot gs gm rg E' → x ∈ bfoot gs gm rg E) ∧ Pcs w' w'.heap.size A pl ∧ pl.length = 2 ∧ Hid (pars pl = l)
theorem TickP.aw {b b' : Bu} {l : List Par} (hl : b.tick.2 = l) (h2 : l.length = 2) (hb : b.tick.1 = b') {e : Ending} {w' : World} (h : TickP w base gs gm rg rc b E e w') : AwT w base gs gm rg rc b' l E e w' := by
  obtain ⟨E', A, n, c, pl, he, h1, h3, h4, h5⟩ := h
  obtain ⟨h6, h7, _, _⟩ := h5.out
  have hn : n = 2 := by
    have h8 := congrArg List.length h6
    rw [hl, List.length_map, h4.len, h2] at h8
    exact h8
  subst hn hb
  exact ⟨E', A, c, pl.map Pm.pc, he, h1, h3, fun x hx => foot_filter x (by rw [← h7]; exact hx), h4.pcs, by rw [List.length_map]; exact h4.len, Lib.hid (by rw [pars, pc_map, h6, hl])⟩
theorem aw_tick1 (h : BusAt w base gs gm rg rc aw3 E) : Calls Try.prog 13 #[.pointer (some ⟨gs, 0, none⟩)] w (AwT w base gs gm rg rc aw4 [paA, paB] E) :=
  (tick_any h (by decide) (by decide)).mono fun e w' h => h.aw aw4_is rfl rfl
theorem aw_tick2 (h : BusAt w base gs gm rg rc aw4 E) : Calls Try.prog 13 #[.pointer (some ⟨gs, 0, none⟩)] w (AwT w base gs gm rg rc aw5 [⟨0, false, [5, 5]⟩, paB] E) :=
  (tick_any h (by decide) (by decide)).mono fun e w' h => h.aw aw5_is rfl rfl
/-- two parcels written out -/
theorem two_pcs {g : Nat} {x y : Pc} (h : RowAt w g 36 (pcF x ++ pcF y)) (hx : Sq byw w w.heap.size x.A x.p.b) (hy : Sq byw w w.heap.size y.A y.p.b) (hux : ∀ z ∈ x.p.b, z < 256) (huy : ∀ z ∈ y.p.b, z < 256) (hnx : x.A = none → x.c = 0) (hny : y.A = none → y.c = 0) : Pcs w w.heap.size (some ⟨g, 0, none⟩) [x, y] := by
  refine ⟨fun _ => ⟨g, 0, rfl, h.lt, fun j z hj i v hv => ?_⟩, ?_, ?_, ?_⟩
  · have hi : i < 3 := (List.getElem?_eq_some_iff.1 hv).1
    rw [Nat.zero_add, h.cells]
    match j, hj with
    | 0, hj =>
      obtain rfl := Option.some.inj hj
      rw [Nat.zero_mul, Nat.zero_add, List.getElem?_append_left (by show i < 3; omega)]
      exact hv
    | 1, hj =>
      obtain rfl := Option.some.inj hj
      rw [List.getElem?_append_right (by show 3 ≤ 1 * 3 + i; omega), show 1 * 3 + i - (pcF x).length = i from by show 1 * 3 + i - 3 = i; omega]
      exact hv
    | j + 2, hj => simp at hj
  · intro z hz
    rcases List.mem_cons.1 hz with rfl | hz
    · exact hx
    · obtain rfl := List.mem_singleton.1 hz
      exact hy
  · intro z hz
    rcases List.mem_cons.1 hz with rfl | hz
    · exact hux
    · obtain rfl := List.mem_singleton.1 hz
      exact huy
  · intro z hz
    rcases List.mem_cons.1 hz with rfl | hz
    · exact hnx
    · obtain rfl := List.mem_singleton.1 hz
      exact hny
/-- Same of two rows known whole: yes -/
theorem psame_yes {A B : Option Addr} {la lb : List Pc} {ca cb : Nat} {l : List Par} (ha : Pcs w w.heap.size A la) (hb : Pcs w w.heap.size B lb) (hna : la.length = 2) (hnb : lb.length = 2) (h1 : Hid (pars la = l)) (h2 : Hid (pars lb = l)) :
    Calls Try.prog 12 #[.slice A 2 ca, .slice B 2 cb] w fun e w' => e = .returned (.bool true) ∧ Below w.heap.size w w' :=
  (psame_any A B la lb ca cb 2 2 w hna hnb ha hb (by decide)).mono fun e w' h => ⟨by rw [h.1, h1.out, h2.out, decide_eq_true rfl], h.2⟩
end
end Go.Proofs.Ythigkmoilfdciaa
