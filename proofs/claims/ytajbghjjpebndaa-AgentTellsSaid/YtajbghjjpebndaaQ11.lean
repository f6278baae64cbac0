/- The walk of StageBack. Plain law of tagged words of which one is another one: no program in sight. Words for the walk of StageRefuses. -/
import Derived.Test.YtajbghjjpebndaaQ10
import Derived.Test.YtajbghjjpebndaaQ02
import Derived.Test.YtajbghjjpebndaaQ09
namespace Go.Proofs.Ytajbghjjpebndaa
set_option maxRecDepth 100000
open Go.RowKit
set_option linter.unusedVariables false
attribute [local go_sem] Later.cell Later.frozen setCell_twice
namespace Stg
open Bk
theorem read_bounds {v : List Nat} (h : ∀ x ∈ v, x < 65536) : (read v).o < 65536 ∧ (read v).t < 4294967296 ∧ ∀ x ∈ (read v).ws, x < 65536 := by
  have hb := getD_u16 h
  have b0 := hb 0
  have b1 := hb 1
  have b2 := hb 2
  unfold read
  split
  · exact ⟨by decide, by decide, by simp [none2]⟩
  split
  · exact ⟨by decide, by decide, by simp [none20]⟩
  split
  · refine ⟨b0, ?_, fun x hx => h x (List.mem_of_mem_drop (List.mem_of_mem_take hx))⟩
    show 65536 * v.getD 1 0 + v.getD 2 0 < 4294967296
    omega
  · exact ⟨by decide, by decide, by simp [none20]⟩
end Stg
def WordsV (w : World) (l : List Nat) (m : Nat) (E : Int) (en : Ending) (w' : World) : Prop :=
  ∃ A c, en = .returned (.tuple #[.slice A m c, .int .i64 E]) ∧ w'.ownsRow w.heap.size 24 1 (.slice A m c) m (l.map u16w) ∧ Below w.heap.size w w'
end Go.Proofs.Ytajbghjjpebndaa
namespace Go.Proofs.Ytajbghjjpebndaa.Stg
open Go.Proofs.Ytajbghjjpebndaa.Bk
theorem getD_set_ne {l : List Nat} {k j x : Nat} (h : k ≠ j) : (l.set k x).getD j 0 = l.getD j 0 := by
  rw [List.getD_eq_getElem?_getD, List.getD_eq_getElem?_getD, List.getElem?_set_ne h]
theorem getD_set_eq {l : List Nat} {k x : Nat} (h : k < l.length) : (l.set k x).getD k 0 = x := by
  rw [List.getD_eq_getElem?_getD, List.getElem?_set_self h]; rfl
theorem read_eq {v : List Nat} (h1 : v.length = 20) (h2 : v.getD 3 0 < 8) (h3 : v.getD 5 0 ≤ 14) : (read v).e = 0 ↔ fits (v.getD 4 0 : Nat) (v.getD 5 0) = true ∧ itself (v.getD 4 0 : Nat) ((v.drop 6).take (v.getD 5 0)) = v.drop 4 := by
  unfold read
  rw [if_neg (by omega), if_neg (by omega)]
  split
  · rename_i h; exact ⟨fun _ => h, fun _ => rfl⟩
  · rename_i h; exact ⟨fun e => absurd e (by decide), fun e => absurd e h⟩
section
variable {o t n : Nat} {a : Int} {ws : List Nat}
theorem tagged_get (hf : fits a ws.length = true) : (tagged o t n a ws).getD 3 0 = n ∧ (tagged o t n a ws).getD 4 0 = a.toNat ∧ (tagged o t n a ws).getD 5 0 = ws.length ∧ (tagged o t n a ws).drop 4 = itself a ws ∧ ((tagged o t n a ws).drop 6).take ws.length = ws := by
  have h := fits_iff.1 hf
  have hi := itself_yes hf
  refine ⟨rfl, ?_, ?_, rfl, ?_⟩
  · unfold tagged; rw [hi]; rfl
  · unfold tagged; rw [hi]; rfl
  · unfold tagged; rw [hi]
    show (ws ++ zs (14 - ws.length)).take ws.length = ws
    rw [List.take_append_of_le_length (by omega), List.take_length]
theorem toNat_fit (hf : fits a ws.length = true) : ((a.toNat : Nat) : Int) = a := by have := fits_iff.1 hf; omega
/-- its owner, or transaction, is another one -/
theorem set_low {k to : Nat} (hf : fits a ws.length = true) (hn : n ≤ 7) (hk : k ≤ 2) : (read ((tagged o t n a ws).set k to)).e = 0 := by
  obtain ⟨g3, g4, g5, gd, gt⟩ := tagged_get (o := o) (t := t) (n := n) hf
  have h5 := (fits_iff.1 hf).1
  have e3 : ((tagged o t n a ws).set k to).getD 3 0 = n := by rw [getD_set_ne (by omega), g3]
  have e4 : ((tagged o t n a ws).set k to).getD 4 0 = a.toNat := by rw [getD_set_ne (by omega), g4]
  have e5 : ((tagged o t n a ws).set k to).getD 5 0 = ws.length := by rw [getD_set_ne (by omega), g5]
  have ed : ((tagged o t n a ws).set k to).drop 4 = itself a ws := by rw [List.drop_set_of_lt (by omega), gd]
  have et : (((tagged o t n a ws).set k to).drop 6).take ws.length = ws := by rw [List.drop_set_of_lt (by omega), gt]
  rw [read_eq (by simp [tagged_length]) (by rw [e3]; omega) (by rw [e5]; omega), e4, e5, ed, et, toNat_fit hf]
  exact ⟨hf, rfl⟩
/-- its number is another one -/
theorem set_num {to : Nat} (hf : fits a ws.length = true) : ((read ((tagged o t n a ws).set 3 to)).e = 0 ↔ to < 8) ∧ (8 ≤ to → (read ((tagged o t n a ws).set 3 to)).e = 2) := by
  obtain ⟨g3, g4, g5, gd, gt⟩ := tagged_get (o := o) (t := t) (n := n) hf
  have h5 := (fits_iff.1 hf).1
  have e3 : ((tagged o t n a ws).set 3 to).getD 3 0 = to := getD_set_eq (by rw [tagged_length]; omega)
  have e4 : ((tagged o t n a ws).set 3 to).getD 4 0 = a.toNat := by rw [getD_set_ne (by omega), g4]
  have e5 : ((tagged o t n a ws).set 3 to).getD 5 0 = ws.length := by rw [getD_set_ne (by omega), g5]
  have ed : ((tagged o t n a ws).set 3 to).drop 4 = itself a ws := by rw [List.drop_set_of_lt (by omega), gd]
  have et : (((tagged o t n a ws).set 3 to).drop 6).take ws.length = ws := by rw [List.drop_set_of_lt (by omega), gt]
  have h8 : 8 ≤ to → (read ((tagged o t n a ws).set 3 to)).e = 2 := fun h => by
    unfold read
    rw [if_pos (.inr (by rw [e3]; exact h))]
    rfl
  refine ⟨⟨fun h => ?_, fun h => ?_⟩, h8⟩
  · rcases Nat.lt_or_ge to 8 with h1 | h1
    · exact h1
    · rw [h8 h1] at h; exact absurd h (by decide)
  · rw [read_eq (by simp [tagged_length]) (by rw [e3]; omega) (by rw [e5]; omega), e4, e5, ed, et, toNat_fit hf]
    exact ⟨hf, rfl⟩
/-- a word behind its own is another one -/
theorem set_high {k to : Nat} (hf : fits a ws.length = true) (hn : n ≤ 7) (hk : 6 + ws.length ≤ k) (hk2 : k < 20) : (read ((tagged o t n a ws).set k to)).e = 0 ↔ to = 0 := by
  obtain ⟨g3, g4, g5, gd, gt⟩ := tagged_get (o := o) (t := t) (n := n) hf
  have h5 := (fits_iff.1 hf).1
  have e3 : ((tagged o t n a ws).set k to).getD 3 0 = n := by rw [getD_set_ne (by omega), g3]
  have e4 : ((tagged o t n a ws).set k to).getD 4 0 = a.toNat := by rw [getD_set_ne (by omega), g4]
  have e5 : ((tagged o t n a ws).set k to).getD 5 0 = ws.length := by rw [getD_set_ne (by omega), g5]
  have ed : ((tagged o t n a ws).set k to).drop 4 = (itself a ws).set (k - 4) to := by
    rw [← gd]; exact List.drop_set.trans (by rw [if_neg (by omega)])
  have et : (((tagged o t n a ws).set k to).drop 6).take ws.length = ws := by
    rw [List.drop_set, if_neg (by omega), List.take_set_of_le (by omega), gt]
  rw [read_eq (by simp [tagged_length]) (by rw [e3]; omega) (by rw [e5]; omega), e4, e5, ed, et, toNat_fit hf]
  have hz : (itself a ws)[k - 4]? = some 0 := by
    rw [itself_yes hf, show k - 4 = (k - 6) + 1 + 1 by omega, List.getElem?_cons_succ, List.getElem?_cons_succ, List.getElem?_append_right (by omega)]
    simp only [zs, List.getElem?_replicate]
    rw [if_pos (by omega)]
  constructor
  · rintro ⟨_, h⟩
    have h1 : ((itself a ws).set (k - 4) to)[k - 4]? = some to := List.getElem?_set_self (by rw [itself_length]; omega)
    rw [← h, hz] at h1
    exact (Option.some.inj h1).symm
  · rintro rfl
    refine ⟨hf, ?_⟩
    have hl : k - 4 < (itself a ws).length := by rw [itself_length]; omega
    have h0 : (itself a ws)[k - 4] = 0 := by rw [List.getElem?_eq_getElem hl] at hz; exact Option.some.inj hz
    conv => rhs; rw [← h0]
    rw [List.set_getElem_self]
theorem mem_set_u16 {l : List Nat} {k to : Nat} (h : ∀ x ∈ l, x < 65536) (ht : to < 65536) : ∀ x ∈ l.set k to, x < 65536 := fun x hx => by
  rcases List.mem_or_eq_of_mem_set hx with hx | hx
  · exact h x hx
  · omega
end
end Go.Proofs.Ytajbghjjpebndaa.Stg
namespace Go.Proofs.Ytajbghjjpebndaa
set_option maxRecDepth 100000
open Go.RowKit
set_option linter.unusedVariables false
attribute [local go_sem] Later.cell Later.frozen setCell_twice
section
variable {P : Program} {ops : Array Oper} {rest : List Oper} {o : Oper} {a : Act} {w : World} {Q : Exit → Act → World → Prop}
theorem wpList_load_row_g (hw : Region.wanted o (yielded ops a.tmps) = true) (ty : TypeId) (x : Operand) (ho : o.op = .load ty x)
    (g : Nat) (hx : a.eval x = .pointer (some ⟨g, 0, none⟩)) (t : TypeId) (cs : Array Value) (fr : Nat × Nat) (d : TypeDesc) (hg : w.heap[g]? = some (.cells cs t fr))
    (hu : P.underlying ty = some d) (hd : (match d with | .struct _ | .array _ _ => true | _ => false) = true) (hi : (P.info? ty).map (·.size) = some cs.size)
    (h : wpList P ops Q rest (a.put o.dst (.agg cs)) w) : wpList P ops Q (o :: rest) a w :=
  wpList_step fun K hK => by rw [if_pos hw]; exact wp_load_row ty x ho g hx t cs fr d hg hu hd hi (hK _ _ h)
end
def OneP (w : World) (p : Bk.Pr) (e : Ending) (w' : World) : Prop :=
  ∃ g o c y, e = .returned (.slice (some ⟨g, o, none⟩) 1 c) ∧ (y : Blk).pr = p ∧ y.Ok w' w'.heap.size ∧ g < w'.heap.size ∧ w'.cell? ⟨g, o, none⟩ = some (.int .i64 y.a) ∧ w'.cell? ⟨g, o + 1, none⟩ = some (.slice y.A y.ws.length y.c) ∧ 1 ≤ c ∧ c ≤ 9223372036854775807 ∧ Below w.heap.size w w'
theorem fit_one (A0 : Option Addr) (x : Blk) (w : World) (h : Blks w w.heap.size A0 [x]) :
    Calls Try.prog 36 #[.slice A0 1 1, .int .i64 1] w (OneP w (Bk.fitP x.pr)) := by
  refine (fit_any A0 [x] 1 1 w h (by simp) (by omega) (by omega)).mono ?_
  rintro e w' ⟨A, c, bl, rfl, hp, hb, hc, hc2, _, hbel⟩
  have hl : bl.length = 1 := by have := congrArg List.length hp; simpa using this
  match bl, hl with
  | [y], _ =>
    obtain ⟨g, o, b, rfl, hg, hb1, hbo, hc0, hc1⟩ := hb.at_ (k := 0) (by simp)
    obtain rfl : y = b := by simpa using hb1
    exact ⟨g, o, c, y, rfl, by simpa using hp, hbo, hg, by simpa using hc0, by simpa using hc1, hc, hc2, hbel⟩
abbrev zt (t : Nat) : Array Value := #[.int .u32 (t : Int), .bool false, .bool false, .bool false, .bool false, .bool false, .bool false, .bool false, .bool false, .int .i64 0, .slice none 0 0, .int .i64 0, .slice none 0 0, .int .i64 0, .slice none 0 0, .int .i64 0, .slice none 0 0, .int .i64 0, .slice none 0 0, .int .i64 0, .slice none 0 0, .int .i64 0, .slice none 0 0, .int .i64 0, .slice none 0 0]
def St0 (t : Nat) : Stv := ⟨t, List.replicate 8 false, List.replicate 8 Blk.zero⟩
theorem St0_ok (t : Nat) (w : World) (B : Nat) (ht : t < 4294967296) : (St0 t).Ok w B := ⟨rfl, rfl, ht, fun b hb => by rw [List.eq_of_mem_replicate hb]; exact Blk.zero_ok w B⟩
theorem St0_len (t : Nat) : ∀ b ∈ (St0 t).bs, b.ws.length ≤ 35184372088832 := fun b hb => by rw [List.eq_of_mem_replicate hb]; decide
end Go.Proofs.Ytajbghjjpebndaa
