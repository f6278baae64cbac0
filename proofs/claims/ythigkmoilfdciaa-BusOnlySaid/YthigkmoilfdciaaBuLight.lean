/- Layer 11: light. -/
import Derived.Test.YthigkmoilfdciaaBuOpen
namespace Go.Proofs.Ythigkmoilfdciaa
open Go.RowKit
set_option linter.unusedVariables false
set_option linter.unusedSimpArgs false
attribute [local go_sem] Later.cell Later.frozen setCell_twice
theorem sliced_zero' (a : Option Addr) (h m s : Nat) : sliced a 0 h m s = .slice a h m := by
  unfold sliced
  rw [Nat.zero_mul, Nat.sub_zero, Nat.sub_zero]
  cases a with
  | none => simp
  | some p => split <;> rfl
attribute [local go_sem high] sliced_zero'
section
variable {w w' : World} {B B' : Nat} {l : List Bop} {A : Option Addr}
theorem Bops.at_ (h : Bops w B A l) {k : Nat} (hk : k < l.length) : ∃ g o x, A = some ⟨g, o, none⟩ ∧ g < B ∧ l[k]? = some x ∧ x ∈ l ∧ BopOk w B x ∧ ∀ (i : Nat) (v : Value), (bopF x)[i]? = some v → w.cell? ⟨g, o + k * 10 + i, none⟩ = some v := by
  obtain ⟨g, o, b, hA, hg, hb, hc⟩ := h.rc.at_ hk
  exact ⟨g, o, b, hA, hg, hb, List.mem_of_getElem? hb, h.ok b (List.mem_of_getElem? hb), fun i v hv => by simpa [Nat.add_assoc] using hc i v hv⟩
end
theorem run_min2n {P : Program} (w : World) (ts : Array TypeId) (t : TypeId) (x y n : Nat) (h : n = min x y) :
    (Builtin.min_ ts t #[.int .i64 (x : Int), .int .i64 (y : Int)]).run P w = .ok (.int .i64 (n : Int)) w := by
  subst h
  simp [Builtin.min_, Builtin.min2]
  repeat split
  all_goals omega
def BLightP (w : World) (A : Option Addr) (l : List Bop) (n c : Nat) (e : Ending) (w' : World) : Prop :=
  Below w.heap.size w w' ∧ (e = .returned (.tuple #[.slice none 0 0, .bool false]) ∨ (e = .returned (.tuple #[.slice A n c, .bool true]) ∧ Hid (∀ o ∈ l.take n, o.p.p.b.length ≤ 310)))
theorem size_bop : (Try.prog.info? 41).map (·.size) = some 10 := by kernel_rfl
set_option maxRecDepth 100000 in
set_option maxHeartbeats 1000000 in
theorem blight_any (A : Option Addr) (l : List Bop) (m c n : Nat) (w : World) (h : Bops w w.heap.size A l) (hm : l.length = m) (hnc : m ≤ c) (hc : c ≤ 9223372036854775807) (hA : A = none → c = 0) (hn : n = min m 120) :
    Calls Try.prog 8 #[.slice A m c] w (BLightP w A l n c) := by
  have HB := Lib.hid h
  have hmin : ∀ w, (Builtin.min_ #[3, 3] 3 #[.int .i64 (m : Int), .int .i64 120]).run Try.prog w = .ok (.int .i64 (n : Int)) w := fun w => run_min2n w _ _ m 120 n hn
  have HM := Lib.hid hm
  have hnm : n ≤ m := by omega
  have hncap : n ≤ c := by omega
  have hn60 : n ≤ 120 := by omega
  have hncI : (n : Int) ≤ (c : Int) := by omega
  clear h hn hm
  go_enter Try.func8, Try.ntmps8
  go_wp2
  clear hmin
  go_loopw [13] (fun i wr => ∃ k : Nat, k ≤ n ∧ i = .int .i64 (k : Int) ∧ Hid (∀ b ∈ l.take k, b.p.p.b.length ≤ 310) ∧ Below w.heap.size w wr) (fun i _ => n - (intOf i).toNat)
  case atStart => exact ⟨0, by omega, rfl, Lib.hid (by simp), Below.refl _ _⟩
  case round =>
    rename World => wr
    obtain ⟨k, hk, rfl, hall, hbe⟩ := hrel
    by_cases hlt : k < n
    · obtain ⟨g, o, x, rfl, hg, hx, hxm, hok, hd⟩ := (HB.out.to hbe).at_ (k := k) (by rw [HM.out]; omega)
      have hltI : (k : Int) < (n : Int) := by omega
      have h0I : (0 : Int) ≤ (k : Int) := by omega
      have HX : Hid (l.take (k + 1) = l.take k ++ [x]) := Lib.hid (by rw [List.take_add_one, hx]; rfl)
      obtain ⟨tick, ⟨⟨s, up, b⟩, XA, xc⟩, ⟨lost, twice, wait, again, at_, turns⟩⟩ := x
      obtain ⟨q, hq⟩ : ∃ q, b.length = q := ⟨_, rfl⟩
      have HQ := Lib.hid hq
      have d0 : wr.cell? ⟨g, o + k * 10, none⟩ = some (.bool tick) := hd 0 _ rfl
      have d1 : wr.cell? ⟨g, o + k * 10 + 1, none⟩ = some (.int .i64 s) := hd 1 _ rfl
      have d2 : wr.cell? ⟨g, o + k * 10 + 2, none⟩ = some (.bool up) := hd 2 _ rfl
      have d3 : wr.cell? ⟨g, o + k * 10 + 3, none⟩ = some (.slice XA q xc) := by have := hd 3 _ rfl; rw [← hq]; exact this
      have d4 : wr.cell? ⟨g, o + k * 10 + 4, none⟩ = some (.bool lost) := hd 4 _ rfl
      have d5 : wr.cell? ⟨g, o + k * 10 + 5, none⟩ = some (.bool twice) := hd 5 _ rfl
      have d6 : wr.cell? ⟨g, o + k * 10 + 6, none⟩ = some (.int .u8 (wait : Int)) := hd 6 _ rfl
      have d7 : wr.cell? ⟨g, o + k * 10 + 7, none⟩ = some (.int .u8 (again : Int)) := hd 7 _ rfl
      have d8 : wr.cell? ⟨g, o + k * 10 + 8, none⟩ = some (.int .u16 (at_ : Int)) := hd 8 _ rfl
      have d9 : wr.cell? ⟨g, o + k * 10 + 9, none⟩ = some (.int .u16 (turns : Int)) := hd 9 _ rfl
      have BE := Lib.hid hbe
      clear hx hxm hok hd hq hbe
      by_cases h3 : 310 < q
      · have h3I : decide ((310 : Int) < (q : Int)) = true := decide_eq_true (by omega)
        go_wp2
        go_ret2
        exact ⟨bel_alloc BE.out _, .inl rfl⟩
      · have h3I : decide ((310 : Int) < (q : Int)) = false := decide_eq_false (by omega)
        have hq3 : q ≤ 310 := by omega
        clear h3
        go_wp2
        go_roundw
        case rel => exact ⟨k + 1, by omega, by go_num, Lib.hid (fun z hz => by
          rw [HX.out] at hz
          rcases List.mem_append.1 hz with hz | hz
          · exact hall.out z hz
          · obtain rfl := List.mem_singleton.1 hz
            show b.length ≤ 310
            rw [HQ.out]; exact hq3), bel_alloc BE.out _⟩
        case measure => simp [intOf]; omega
    · obtain rfl : k = n := by omega
      have BE := Lib.hid hbe
      clear hbe
      go_wp2
      go_ret2
      exact ⟨BE.out, .inr ⟨rfl, hall⟩⟩
end Go.Proofs.Ythigkmoilfdciaa
