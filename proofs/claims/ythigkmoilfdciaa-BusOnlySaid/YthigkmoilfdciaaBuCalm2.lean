/- Layer 11: two parcels with waits, what comes at each tick. -/
import Derived.Test.YthigkmoilfdciaaBuWant
namespace Go.Proofs.Ythigkmoilfdciaa
open Go.RowKit
set_option linter.unusedVariables false
set_option linter.unusedSimpArgs false
attribute [local go_sem] Later.cell Later.frozen setCell_twice
def onP : Par := ⟨0, false, [1]⟩
def twP : Par := ⟨0, true, [2]⟩
def wt2 (rtu : List Bool) (T a b k : Nat) : Bu := ⟨rtu, T + k, [(T + 1 + a, onP), (T + 1 + b, twP)].filter fun q => decide (T + k < q.1)⟩
def wantL (a b k : Nat) : List Par := (if k = a then [onP] else []) ++ (if k = b then [twP] else [])
theorem wt2_zero (rtu : List Bool) (T a b : Nat) : wt2 rtu T a b 0 = ⟨rtu, T, [(T + 1 + a, onP), (T + 1 + b, twP)]⟩ := by
  unfold wt2
  have h : [(T + 1 + a, onP), (T + 1 + b, twP)].filter (fun q => decide (T + 0 < q.1)) = [(T + 1 + a, onP), (T + 1 + b, twP)] := List.filter_eq_self.2 (fun q hq => decide_eq_true (by
    rcases List.mem_cons.1 hq with rfl | hq
    · show T + 0 < T + 1 + a; omega
    · obtain rfl := List.mem_singleton.1 hq
      show T + 0 < T + 1 + b; omega))
  rw [h]
  rfl
theorem two_tick (rtu : List Bool) (s P Q : Nat) (p q : Par) : (Bu.mk rtu s ([(P, p), (Q, q)].filter fun z => decide (s < z.1))).tick = (⟨rtu, s + 1, [(P, p), (Q, q)].filter fun z => decide (s + 1 < z.1)⟩, (if P = s + 1 then [p] else []) ++ (if Q = s + 1 then [q] else [])) := by
  unfold Bu.tick
  rcases Nat.lt_trichotomy (s + 1) P with h | h | h <;> rcases Nat.lt_trichotomy (s + 1) Q with h' | h' | h'
  all_goals first | (have fP0 : decide (s < P) = true := decide_eq_true (by omega)) | (have fP0 : decide (s < P) = false := decide_eq_false (by omega))
  all_goals first | (have fP1 : decide (s + 1 < P) = true := decide_eq_true (by omega)) | (have fP1 : decide (s + 1 < P) = false := decide_eq_false (by omega))
  all_goals first | (have fP2 : decide (P = s + 1) = true := decide_eq_true (by omega)) | (have fP2 : decide (P = s + 1) = false := decide_eq_false (by omega))
  all_goals first | (have fP3 : decide (P ≠ s + 1) = true := decide_eq_true (by omega)) | (have fP3 : decide (P ≠ s + 1) = false := decide_eq_false (by omega))
  all_goals first | (have fP5 : (P = s + 1) = True := eq_true (by omega)) | (have fP5 : (P = s + 1) = False := eq_false (by omega))
  all_goals first | (have fQ0 : decide (s < Q) = true := decide_eq_true (by omega)) | (have fQ0 : decide (s < Q) = false := decide_eq_false (by omega))
  all_goals first | (have fQ1 : decide (s + 1 < Q) = true := decide_eq_true (by omega)) | (have fQ1 : decide (s + 1 < Q) = false := decide_eq_false (by omega))
  all_goals first | (have fQ2 : decide (Q = s + 1) = true := decide_eq_true (by omega)) | (have fQ2 : decide (Q = s + 1) = false := decide_eq_false (by omega))
  all_goals first | (have fQ3 : decide (Q ≠ s + 1) = true := decide_eq_true (by omega)) | (have fQ3 : decide (Q ≠ s + 1) = false := decide_eq_false (by omega))
  all_goals first | (have fQ5 : (Q = s + 1) = True := eq_true (by omega)) | (have fQ5 : (Q = s + 1) = False := eq_false (by omega))
  all_goals
    clear h h'
    simp only [List.filter_cons, List.filter_nil, fP0, fP1, fP2, fP3, fP5, fQ0, fQ1, fQ2, fQ3, fQ5, if_true, if_false, Bool.false_eq_true, List.map_cons, List.map_nil, List.append_nil, List.nil_append, List.cons_append]
  all_goals (try simp)
theorem wt2_tick (rtu : List Bool) (T a b k : Nat) : (wt2 rtu T a b k).tick = (wt2 rtu T a b (k + 1), wantL a b k) := by
  unfold wt2
  rw [two_tick]
  unfold wantL
  have e1 : (T + 1 + a = T + k + 1) = (k = a) := propext ⟨fun h => by omega, fun h => by omega⟩
  have e2 : (T + 1 + b = T + k + 1) = (k = b) := propext ⟨fun h => by omega, fun h => by omega⟩
  simp only [e1, e2]
  rfl
theorem wt2_time (rtu : List Bool) (T a b k : Nat) : (wt2 rtu T a b k).time = T + k := rfl
theorem wt2_len (rtu : List Bool) (T a b k : Nat) : (wt2 rtu T a b k).l.length ≤ 2 := by
  unfold wt2
  exact List.length_filter_le _ _
theorem wantL_len (a b k : Nat) : (wantL a b k).length ≤ 2 := by
  unfold wantL
  rw [List.length_append]
  split <;> split <;> simp
structure TwoAt (w : World) (h1 h2 h3 h4 : Nat) : Prop where
  a : RowAt w h1 5 [.int .u8 1]
  b : RowAt w h2 5 [.int .u8 2]
  one : RowAt w h3 36 [.int .i64 0, .bool false, .slice (some ⟨h1, 0, none⟩) 1 1]
  two : RowAt w h4 36 [.int .i64 0, .bool true, .slice (some ⟨h2, 0, none⟩) 1 1]
theorem TwoAt.fr {w w' : World} {h1 h2 h3 h4 : Nat} {F : List Nat} (h : TwoAt w h1 h2 h3 h4) (k : Fr F w w') (hF : ∀ x, x ∈ F → x ≠ h1 ∧ x ≠ h2 ∧ x ≠ h3 ∧ x ≠ h4) : TwoAt w' h1 h2 h3 h4 :=
  ⟨k.row h.a (fun m => (hF _ m).1 rfl), k.row h.b (fun m => (hF _ m).2.1 rfl), k.row h.one (fun m => (hF _ m).2.2.1 rfl), k.row h.two (fun m => (hF _ m).2.2.2 rfl)⟩
theorem TwoAt.to {w w' : World} {h1 h2 h3 h4 : Nat} (h : TwoAt w h1 h2 h3 h4) (k : Below w.heap.size w w') : TwoAt w' h1 h2 h3 h4 := h.fr (F := []) (Fr.of_below _ k) (by simp)
theorem one_byte {w : World} {g : Nat} {x : Nat} (h : RowAt w g 5 [.int .u8 (x : Int)]) : Sq byw w w.heap.size (some ⟨g, 0, none⟩) [x] := fun _ => ⟨g, 0, rfl, h.lt, fun j v hj => by
  rw [Nat.zero_add, h.cells j]
  match j, hj with
  | 0, hj => obtain rfl := Option.some.inj hj; rfl
  | j + 1, hj => simp at hj⟩
theorem byte1 {w : World} {g : Nat} (h : RowAt w g 5 [.int .u8 1]) : Sq byw w w.heap.size (some ⟨g, 0, none⟩) [1] := one_byte (x := 1) h
theorem byte2 {w : World} {g : Nat} (h : RowAt w g 5 [.int .u8 2]) : Sq byw w w.heap.size (some ⟨g, 0, none⟩) [2] := one_byte (x := 2) h
abbrev onC (h1 : Nat) : Pc := ⟨onP, some ⟨h1, 0, none⟩, 1⟩
abbrev twC (h2 : Nat) : Pc := ⟨twP, some ⟨h2, 0, none⟩, 1⟩
end Go.Proofs.Ythigkmoilfdciaa
