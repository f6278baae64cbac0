/- Records that came in: one by value, a slice of them. -/
import Derived.Test.YtegmeodmjaijnaaRcK
import Derived.Test.YtegmeodmjaijnaaBs
namespace Go.Proofs.Ytegmeodmjaijnaa
open Go.ChangeShapes Go.WideShapes Go.ChangeAt Go.RowKit Go.Deep
set_option linter.unusedVariables false
/-- a record that can be read: its text lies below block B -/
structure RcOk (w : World) (B : Nat) (x : Rc) : Prop where
  sq : Sq byw w B x.A x.p.text
  fit : x.p.Fit
  nl : x.Nl
section
variable {w w' : World} {B B' : Nat} {x : Rc} {l : List Rc} {A : Option Addr}
theorem RcOk.below (h : RcOk w B x) (k : Below B w w') : RcOk w' B x := ⟨h.sq.below k, h.fit, h.nl⟩
theorem RcOk.more (h : RcOk w B x) (hB : B ≤ B') : RcOk w B' x := ⟨h.sq.more hB, h.fit, h.nl⟩
/-- a slice of records that can be read -/
structure Rcs (w : World) (B : Nat) (A : Option Addr) (l : List Rc) : Prop where
  rc : Recs recK.f 5 w B A l
  ok : ∀ b ∈ l, RcOk w B b
theorem Rcs.below (h : Rcs w B A l) (k : Below B w w') : Rcs w' B A l := ⟨h.rc.below k, fun b hb => (h.ok b hb).below k⟩
theorem Rcs.more (h : Rcs w B A l) (hB : B ≤ B') : Rcs w B' A l := ⟨h.rc.more hB, fun b hb => (h.ok b hb).more hB⟩
theorem Rcs.to (h : Rcs w w.heap.size A l) (k : Below w.heap.size w w') : Rcs w' w'.heap.size A l := (h.below k).more k.size
theorem Rcs.take (h : Rcs w B A l) (n : Nat) : Rcs w B A (l.take n) := ⟨h.rc.take n, fun b hb => h.ok b (List.mem_of_mem_take hb)⟩
theorem Rcs.at_ (h : Rcs w B A l) {k : Nat} (hk : k < l.length) : ∃ g o b, A = some ⟨g, o, none⟩ ∧ g < B ∧ l[k]? = some b ∧ RcOk w B b ∧ w.cell? ⟨g, o + k * 5, none⟩ = some (.int .u8 (b.p.what : Int)) ∧ w.cell? ⟨g, o + k * 5 + 1, none⟩ = some (.int .u32 (b.p.tx : Int)) ∧ w.cell? ⟨g, o + k * 5 + 2, none⟩ = some (.int .u8 (b.p.who : Int)) ∧ w.cell? ⟨g, o + k * 5 + 3, none⟩ = some (.bool b.p.yes) ∧ w.cell? ⟨g, o + k * 5 + 4, none⟩ = some (.slice b.A b.p.text.length b.c) := by
  obtain ⟨g, o, b, hA, hg, hb, hc⟩ := h.rc.at_ hk
  exact ⟨g, o, b, hA, hg, hb, h.ok b (List.mem_of_getElem? hb), by simpa using hc 0 _ rfl, by simpa [Nat.add_assoc] using hc 1 _ rfl, by simpa [Nat.add_assoc] using hc 2 _ rfl, by simpa [Nat.add_assoc] using hc 3 _ rfl, by simpa [Nat.add_assoc] using hc 4 _ rfl⟩
theorem Olist.rcs {base n c : Nat} {e : TypeId} (h : Olist recK w base e A n c l) (hf : ∀ x ∈ l, x.p.Fit ∧ x.Nl) : Rcs w w.heap.size A l := ⟨h.recs recK_fine, fun b hb => ⟨h.ok b hb, (hf b hb).1, (hf b hb).2⟩⟩
end
section
variable {H : Type} {enc : TypeId × Value → H} {w : World} {base b0 : Nat} {spare : Nat → Bool} {held : Bool} {r : Reach}
theorem rec_trod (n : Nat) (cs : List Value) (y : DataW H × List MemPlace) (h : DataW.trod enc Try.prog w base spare held n 31 cs = some y) : ∃ x : Rc, cs = recK.f x ∧ RcOk w w.heap.size x := by
  obtain ⟨hl, n, hf⟩ := trod_field Try.underlying31 h
  have hC : Try.prog.cellsOf 31 = 5 := by kernel_rfl
  rw [hC] at hl
  match cs, hl with
  | [v0, v1, v2, v3, v4], _ =>
    obtain ⟨y0, h0⟩ := hf 0 _ rfl
    obtain ⟨y1, h1⟩ := hf 1 _ rfl
    obtain ⟨y2, h2⟩ := hf 2 _ rfl
    obtain ⟨y3, h3⟩ := hf 3 _ rfl
    obtain ⟨y4, h4⟩ := hf 4 _ rfl
    obtain ⟨a0, rfl, b0⟩ := trod_nat (k := .u8) (v := v0) rfl Try.underlying5 h0
    obtain ⟨a1, rfl, b1⟩ := trod_nat (k := .u32) (v := v1) rfl Try.underlying28 h1
    obtain ⟨a2, rfl, b2⟩ := trod_nat (k := .u8) (v := v2) rfl Try.underlying5 h2
    obtain ⟨a3, rfl⟩ := trod_truth (v := v3) Try.underlying4 h3
    obtain ⟨A4, l4, c4, e4, q4⟩ := bytes_trod (cs := [v4]) Try.underlying29 Try.underlying5 (by kernel_rfl) _ _ h4
    obtain rfl : v4 = .slice A4 l4.length c4 := by simpa using e4
    exact ⟨⟨⟨a0, a1, a2, a3, l4⟩, A4, c4⟩, rfl, q4.sq, ⟨b0, b1, b2, q4.u⟩, ⟨q4.nl, q4.ln, q4.cap⟩⟩
theorem open_rec {v : Value} {d : DataW H} {ps : List MemPlace} (hval : Value.okWide Try.prog w r b0 31 v) (hd : DataW.Trod enc Try.prog w base spare held 31 v d ps) :
    ∃ x : Rc, v = .agg (recK.f x).toArray ∧ RcOk w w.heap.size x := by
  obtain ⟨cs, rfl, _⟩ := okWide_struct Try.underlying31 hval
  obtain ⟨fuel, hf⟩ := hd
  obtain ⟨x, hx, hok⟩ := rec_trod _ _ _ hf
  exact ⟨x, by rw [← hx]; rfl, hok⟩
theorem open_recs_in {v : Value} {d : DataW H} {ps : List MemPlace} (hval : Value.okWide Try.prog w r b0 22 v) (hd : DataW.Trod enc Try.prog w base spare held 22 v d ps) :
    ∃ (A : Option Addr) (l : List Rc) (c : Nat), v = .slice A l.length c ∧ Rcs w w.heap.size A l ∧ l.length ≤ c ∧ c ≤ 9223372036854775807 ∧ (A = none → c = 0) := by
  obtain ⟨A, l, c, h1, h2, h3, h4, h5, h6⟩ := okWide_slice_trod recK.f (fun b => RcOk w w.heap.size b) Try.underlying22 (show Try.prog.cellsOf 31 = 5 by kernel_rfl) (by decide) rec_trod hval hd
  exact ⟨A, l, c, h1, ⟨h2, h3⟩, h4, h5, h6⟩
end
end Go.Proofs.Ytegmeodmjaijnaa
