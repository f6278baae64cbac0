/- string(b) of bytes that read as numbers, in the words of Base. -/
import Derived.Test.YthigkmoilfdciaaBase
import Derived.Laws.BytesArg
namespace Go.Proofs.Ythigkmoilfdciaa
open Go.RowKit

def str (l : List Nat) : ByteArray := ⟨(l.map UInt8.ofNat).toArray⟩
theorem str_inj : ∀ {l m : List Nat}, (∀ x ∈ l, x < 256) → (∀ x ∈ m, x < 256) → str l = str m → l = m := by
  have key : ∀ {l m : List Nat}, (∀ x ∈ l, x < 256) → (∀ x ∈ m, x < 256) → l.map UInt8.ofNat = m.map UInt8.ofNat → l = m := by
    intro l
    induction l with
    | nil => intro m _ _ h; cases m with
      | nil => rfl
      | cons _ _ => simp at h
    | cons x l ih =>
      intro m hl hm h
      cases m with
      | nil => simp at h
      | cons y m =>
        simp only [List.map_cons, List.cons.injEq] at h
        have hx := hl x (by simp)
        have hy := hm y (by simp)
        have e : x = y := by
          have := congrArg UInt8.toNat h.1
          simp only [UInt8.toNat_ofNat', Nat.reducePow] at this
          omega
        rw [e, ih (fun z hz => hl z (by simp [hz])) (fun z hz => hm z (by simp [hz])) h.2]
  intro l m hl hm h
  refine key hl hm ?_
  have := congrArg (fun s : ByteArray => s.data.toList) h
  simpa [str] using this
theorem str_eq_iff {l m : List Nat} (hl : ∀ x ∈ l, x < 256) (hm : ∀ x ∈ m, x < 256) : str l = str m ↔ l = m := ⟨str_inj hl hm, fun h => by rw [h]⟩

theorem str_toList (l : List Nat) : (str l).toList = l.map UInt8.ofNat := by rw [Go.ByteArray.toList_eq]; simp [str]
theorem str_ne {l m : List Nat} (hl : ∀ x ∈ l, x < 256) (hm : ∀ x ∈ m, x < 256) (h : l ≠ m) : ((str l).toList == (str m).toList) = false := by
  rw [beq_eq_false_iff_ne]
  intro he
  rw [Go.ByteArray.toList_eq, Go.ByteArray.toList_eq] at he
  refine h (str_inj hl hm ?_)
  cases hs : str l; cases ht : str m
  rw [hs, ht] at he
  simpa using he
theorem str_same (l : List Nat) : ((str l).toList == (str l).toList) = true := by simp
theorem strOfNums_vals (l : List Nat) : strOfNums (l.map Int.ofNat) = str l := by
  simp [strOfNums, str, Function.comp_def]

theorem conv_nums {P : Program} {w : World} {B : Nat} {A : Option Addr} {l : List Nat} (h : Nums .u8 w B A l) (src dst e : TypeId) (c n : Nat) (hs : P.underlying src = some (.slice e)) (he : P.underlying e = some (.int .u8)) (hd : P.underlying dst = some .string) (hn : l.length = n) :
    (convert src dst (.slice A n c)).run P w = .ok (.string (str l)) w := by
  subst hn
  rcases Nat.eq_zero_or_pos l.length with h0 | h0
  · obtain rfl : l = [] := List.eq_nil_of_length_eq_zero h0
    rw [run_convert_bytes_string w src dst e _ _ c hs he hd]
    cases A <;> simp [Conv.bytesToString, loadCells] <;> rfl
  · obtain ⟨b, o, rfl, _, hc⟩ := h h0
    have := run_convert_bytes_arg (P := P) w src e hs he b o l.length c (l.map Int.ofNat) (by simp) (fun i hi => by
      rw [hc i l[i] (List.getElem?_eq_getElem hi)]
      simp [List.getD_eq_getElem?_getD, List.getElem?_eq_getElem hi]) dst hd
    rw [strOfNums_vals] at this
    exact this
end Go.Proofs.Ythigkmoilfdciaa
