/- A slice of bytes that came in. -/
import Derived.Test.YthigkmoilfdciaaRecs
import Derived.Test.YthigkmoilfdciaaOpenB
import Derived.Test.YthigkmoilfdciaaCopyB
namespace Go.Proofs.Ythigkmoilfdciaa
open Go.ChangeShapes Go.WideShapes Go.ChangeAt Go.RowKit Go.Deep
set_option linter.unusedVariables false
/-- a slice of bytes that reads as l -/
structure Bs (w : World) (B : Nat) (A : Option Addr) (c : Nat) (l : List Nat) : Prop where
  sq : Sq byw w B A l
  u : ∀ x ∈ l, x < 256
  ln : l.length ≤ c
  cap : c ≤ 9223372036854775807
  nl : A = none → c = 0
section
variable {w w' : World} {B B' c : Nat} {A : Option Addr} {l : List Nat}
theorem Bs.below (h : Bs w B A c l) (k : Below B w w') : Bs w' B A c l := ⟨h.sq.below k, h.u, h.ln, h.cap, h.nl⟩
theorem Bs.more (h : Bs w B A c l) (hB : B ≤ B') : Bs w B' A c l := ⟨h.sq.more hB, h.u, h.ln, h.cap, h.nl⟩
theorem Bs.to (h : Bs w w.heap.size A c l) (k : Below w.heap.size w w') : Bs w' w'.heap.size A c l := (h.below k).more k.size
theorem Bs.lt (h : Bs w B A c l) (hn : 0 < l.length) : ∃ b o, A = some ⟨b, o, none⟩ ∧ b < B := by
  obtain ⟨b, o, hA, hb, _⟩ := h.sq hn
  exact ⟨b, o, hA, hb⟩
end
section
variable {H : Type} {enc : TypeId × Value → H} {P : Program} {w : World} {base b0 : Nat} {spare : Nat → Bool} {held : Bool} {r : Reach}
theorem u8_trod {t : TypeId} (ht : P.underlying t = some (.int .u8)) (n : Nat) (cs : List Value) (y : DataW H × List MemPlace) (h : DataW.trod enc P w base spare held n t cs = some y) : ∃ b : Nat, cs = [byw b] ∧ b < 256 := by
  obtain ⟨a, hv, _, hw⟩ := DataW.trod_int ht h
  have ha := nat_of_wf (k := .u8) rfl hw
  exact ⟨a.toNat, by rw [hv, byw, Int.toNat_of_nonneg ha.1], by have := ha.2; simp [top] at this; omega⟩
theorem bytes_trod {t e : TypeId} {cs : List Value} (ht : P.underlying t = some (.slice e)) (he : P.underlying e = some (.int .u8)) (hs : P.cellsOf e = 1) (n : Nat) (y : DataW H × List MemPlace) (h : DataW.trod enc P w base spare held n t cs = some y) :
    ∃ (A : Option Addr) (l : List Nat) (c : Nat), cs = [.slice A l.length c] ∧ Bs w w.heap.size A c l := by
  obtain ⟨A, l, c, h1, h2, h3, h4, h5, h6⟩ := open_recs (fun b => [byw b]) (fun b => b < 256) ht hs (by decide) (u8_trod he) h
  exact ⟨A, l, c, h1, sq_of_recs h2, h3, h4, h5, h6⟩
theorem open_bytes {t e : TypeId} {v : Value} {d : DataW H} {ps : List MemPlace} (ht : P.underlying t = some (.slice e)) (he : P.underlying e = some (.int .u8)) (hs : P.cellsOf e = 1) (hval : Value.okWide P w r b0 t v) (hd : DataW.Trod enc P w base spare held t v d ps) :
    ∃ (A : Option Addr) (l : List Nat) (c : Nat), v = .slice A l.length c ∧ Bs w w.heap.size A c l := by
  obtain ⟨A, l, c, h1, h2, h3, h4, h5, h6⟩ := okWide_slice_trod (fun b => [byw b]) (fun b => b < 256) ht hs (by decide) (u8_trod he) hval hd
  exact ⟨A, l, c, h1, sq_of_recs h2, h3, h4, h5, h6⟩
end
end Go.Proofs.Ythigkmoilfdciaa
