/- Layer 15, the document's answer: tokens (layer 13): the plain law of a word; a row of tokens. -/
import Derived.Test.YthhokpaidekmnaaVrNm
import Derived.Test.YthhokpaidekmnaaVrPa
import Derived.Test.YthhokpaidekmnaaAppV
namespace Go.Proofs.Ythhokpaidekmnaa
open Go.RowKit
set_option linter.unusedVariables false
set_option linter.unusedSimpArgs false
set_option maxRecDepth 100000
/-- a token -/
structure Tk where
 kind : Nat
 text : ByteArray
 num : Dc
 line : Int
abbrev tkF (t : Tk) : List Value := [.int .u8 (t.kind : Int), .string t.text, .int .i64 t.num.n, .int .u8 (t.num.d : Int), .int .i64 t.line]
theorem tkF_one : ∀ (a : Tk) (u : Value), u ∈ tkF a → u.oneCell' = true := fun a u hu => by
 simp only [tkF, List.mem_cons, List.not_mem_nil, or_false] at hu
 rcases hu with rfl | rfl | rfl | rfl | rfl <;> rfl
theorem info_tok : (Try.prog.info? 99).map (fun i => (i.zero, i.size, i.bytes)) = some (some (.agg #[.int .u8 0, .string ⟨#[]⟩, .int .i64 0, .int .u8 0, .int .i64 0]), 5, 48) := by kernel_rfl
theorem info_split {P : Program} {T : TypeId} {z : Value} {s b : Nat} (h : (P.info? T).map (fun i => (i.zero, i.size, i.bytes)) = some (some z, s, b)) : ∃ i, P.info? T = some i ∧ i.zero = some z ∧ i.size = s ∧ i.bytes = b := by
 cases hi : P.info? T with
 | none => rw [hi] at h; cases h
 | some i =>
  rw [hi] at h
  simp at h
  exact ⟨i, rfl, h.1, h.2.1, h.2.2⟩
/-- the words among tokens are words -/
def TokOk (l : List Tk) : Prop := ∀ t ∈ l, t.kind = 1 → Vd.unit t.text = true
theorem TokOk.nil : TokOk [] := fun t h => by cases h
theorem TokOk.snoc {l : List Tk} {t : Tk} (h : TokOk l) (ht : t.kind = 1 → Vd.unit t.text = true) : TokOk (l ++ [t]) := fun x hx => by
 rcases List.mem_append.1 hx with hx | hx
 ·exact h x hx
 ·obtain rfl := List.mem_singleton.1 hx
  exact ht
theorem unit_out {s : ByteArray} (h : Vd.unit s = true) : s.size ≤ 20 ∧ (∀ h0 : 0 < s.size, letN s[0].toNat) ∧ ∀ (i : Nat) (hi : i < s.size), goesN 1 s[i].toNat = true := by
 rw [unit_eq] at h
 simp only [Bool.and_eq_true, decide_eq_true_iff, List.all_eq_true] at h
 refine ⟨h.1.1, fun h0 => ?_, fun i hi => ?_⟩
 ·have := h.1.2
  rw [get_list s 0 h0] at this
  dsimp only at this
  rw [← letN_c] at this
  exact of_decide_eq_true this
 ·rw [goesN_c]
  exact h.2 _ (List.mem_of_getElem? (get_list s i hi))
/-- a piece of a text -/
theorem extract_get {s : ByteArray} {a b j : Nat} (hb : b ≤ s.size) (hj : a + j < b) : (s.extract a b).data.toList[j]? = some (s[a + j]'(by omega)) := by
 have h1 : (s.extract a b).size = b - a := by rw [ByteArray.size_extract]; omega
 rw [get_list _ j (by omega)]
 rw [ByteArray.getElem_extract]
theorem unit_piece {s : ByteArray} {a b : Nat} (hb : b ≤ s.size) (hab : a < b) (h20 : b - a ≤ 20) (h0 : letN (s[a]'(by omega)).toNat) (hg : ∀ (j : Nat) (hj : a < j) (hjb : j < b), goesN 1 (s[j]'(by omega)).toNat = true) : Vd.unit (s.extract a b) = true := by
 have hsz : (s.extract a b).size = b - a := by rw [ByteArray.size_extract]; omega
 rw [unit_eq]
 simp only [Bool.and_eq_true, decide_eq_true_iff, List.all_eq_true]
 have hlet : Vd.letC (s[a]'(by omega)) = true := by rw [← letN_c]; exact decide_eq_true h0
 refine ⟨⟨by omega, ?_⟩, fun x hx => ?_⟩
 ·rw [extract_get hb (show a + 0 < b by omega)]
  exact hlet
 ·obtain ⟨j, hj, rfl⟩ := List.mem_iff_getElem.1 hx
  rw [← size_list, hsz] at hj
  have h1 := extract_get (j := j) hb (show a + j < b by omega)
  rw [List.getElem?_eq_getElem (by rw [← size_list, hsz]; exact hj)] at h1
  rw [Option.some.inj h1]
  rcases Nat.eq_zero_or_pos j with rfl | hj0
  ·exact unitC_of hlet
  ·rw [← goesN_c]
   exact hg (a + j) (by omega) (by omega)
theorem extract_snoc (s : ByteArray) (a b : Nat) (hab : a ≤ b) (hb : b < s.size) : s.extract a b ++ s.extract b (b + 1) = s.extract a (b + 1) := by
 rw [ByteArray.extract_append_extract]
 congr 1 <;> omega
theorem extract_whole (s : ByteArray) : s.extract 0 s.size = s := ByteArray.extract_zero_size
end Go.Proofs.Ythhokpaidekmnaa
