/- Layer 15: tables and recipes in memory, and how those that came in are opened. -/
import Derived.Test.YthhokpaidekmnaaVdUnit
import Derived.Test.YthhokpaidekmnaaRecs
import Derived.Test.YthhokpaidekmnaaOpen
namespace Go.Proofs.Ythhokpaidekmnaa
open Go.ChangeShapes Go.WideShapes Go.ChangeAt Go.RowKit Go.Deep
set_option linter.unusedVariables false
set_option maxRecDepth 100000
/-- a part of a recipe, its values' row at A -/
structure Pa where
 slave : ByteArray
 line : Int
 sets : List St
 A : Option Addr
 c : Nat
/-- a device, its points' row at A -/
structure Dv where
 name : ByteArray
 pts : List Pt
 A : Option Addr
 c : Nat
abbrev I64 (x : Int) : Prop := -9223372036854775808 ≤ x ∧ x ≤ 9223372036854775807
abbrev stF (s : St) : List Value := [.string s.point, .int .i64 s.value.n, .int .u8 (s.value.d : Int), .string s.unit, .int .i64 s.line]
abbrev paF (p : Pa) : List Value := [.string p.slave, .int .i64 p.line, .slice p.A p.sets.length p.c]
abbrev ptF (p : Pt) : List Value := [.string p.name, .int .i64 p.at_, .int .i64 p.digits, .bool p.signed, .int .i64 p.low.n, .int .u8 (p.low.d : Int), .int .i64 p.high.n, .int .u8 (p.high.d : Int), .string p.unit]
abbrev dvF (d : Dv) : List Value := [.string d.name, .slice d.A d.pts.length d.c]
def St.Fit (s : St) : Prop := s.value.Fit ∧ I64 s.line
def Pt.Fit (p : Pt) : Prop := I64 p.at_ ∧ I64 p.digits ∧ p.low.Fit ∧ p.high.Fit
/-- a slice's shape -/
structure Shp (A : Option Addr) (n c : Nat) : Prop where
 le : n ≤ c
 cap : c ≤ 9223372036854775807
 nl : A = none → c = 0
structure Pa.Ok (p : Pa) (w : World) (B : Nat) : Prop where
 rc : Recs stF 5 w B p.A p.sets
 fit : ∀ s ∈ p.sets, s.Fit
 shp : Shp p.A p.sets.length p.c
 line : I64 p.line
structure Dv.Ok (d : Dv) (w : World) (B : Nat) : Prop where
 rc : Recs ptF 9 w B d.A d.pts
 fit : ∀ p ∈ d.pts, p.Fit
 shp : Shp d.A d.pts.length d.c
/-- a row of parts that can be read -/
structure Pas (w : World) (B : Nat) (A : Option Addr) (l : List Pa) : Prop where
 rc : Recs paF 3 w B A l
 ok : ∀ p ∈ l, p.Ok w B
/-- a table that can be read -/
structure Tab (w : World) (B : Nat) (A : Option Addr) (l : List Dv) : Prop where
 rc : Recs dvF 2 w B A l
 ok : ∀ d ∈ l, d.Ok w B
section
variable {w w' : World} {B B' : Nat} {A : Option Addr}
theorem Pa.Ok.below {p : Pa} (h : p.Ok w B) (k : Below B w w') : p.Ok w' B := ⟨h.rc.below k, h.fit, h.shp, h.line⟩
theorem Pa.Ok.more {p : Pa} (h : p.Ok w B) (k : B ≤ B') : p.Ok w B' := ⟨h.rc.more k, h.fit, h.shp, h.line⟩
theorem Dv.Ok.below {p : Dv} (h : p.Ok w B) (k : Below B w w') : p.Ok w' B := ⟨h.rc.below k, h.fit, h.shp⟩
theorem Dv.Ok.more {p : Dv} (h : p.Ok w B) (k : B ≤ B') : p.Ok w B' := ⟨h.rc.more k, h.fit, h.shp⟩
theorem Pas.below {l : List Pa} (h : Pas w B A l) (k : Below B w w') : Pas w' B A l := ⟨h.rc.below k, fun b hb => (h.ok b hb).below k⟩
theorem Pas.more {l : List Pa} (h : Pas w B A l) (k : B ≤ B') : Pas w B' A l := ⟨h.rc.more k, fun b hb => (h.ok b hb).more k⟩
theorem Pas.to {l : List Pa} (h : Pas w w.heap.size A l) (k : Below w.heap.size w w') : Pas w' w'.heap.size A l := (h.below k).more k.size
theorem Tab.below {l : List Dv} (h : Tab w B A l) (k : Below B w w') : Tab w' B A l := ⟨h.rc.below k, fun b hb => (h.ok b hb).below k⟩
theorem Tab.more {l : List Dv} (h : Tab w B A l) (k : B ≤ B') : Tab w B' A l := ⟨h.rc.more k, fun b hb => (h.ok b hb).more k⟩
theorem Tab.to {l : List Dv} (h : Tab w w.heap.size A l) (k : Below w.heap.size w w') : Tab w' w'.heap.size A l := (h.below k).more k.size
theorem Pa.Ok.to {p : Pa} (h : p.Ok w w.heap.size) (k : Below w.heap.size w w') : p.Ok w' w'.heap.size := (h.below k).more k.size
theorem Dv.Ok.to {p : Dv} (h : p.Ok w w.heap.size) (k : Below w.heap.size w w') : p.Ok w' w'.heap.size := (h.below k).more k.size
/-- the cells of part k -/
theorem Pas.at_ {l : List Pa} (h : Pas w B A l) {k : Nat} (hk : k < l.length) : ∃ g o p, A = some ⟨g, o, none⟩ ∧ g < B ∧ l[k]? = some p ∧ p.Ok w B ∧ w.cell? ⟨g, o + k * 3, none⟩ = some (.string p.slave) ∧ w.cell? ⟨g, o + k * 3 + 1, none⟩ = some (.int .i64 p.line) ∧ w.cell? ⟨g, o + k * 3 + 2, none⟩ = some (.slice p.A p.sets.length p.c) := by
 obtain ⟨g, o, b, hA, hg, hb, hc⟩ := h.rc.at_ hk
 exact ⟨g, o, b, hA, hg, hb, h.ok b (List.mem_of_getElem? hb), by simpa using hc 0 _ rfl, by simpa [Nat.add_assoc] using hc 1 _ rfl, by simpa [Nat.add_assoc] using hc 2 _ rfl⟩
theorem Tab.at_ {l : List Dv} (h : Tab w B A l) {k : Nat} (hk : k < l.length) : ∃ g o d, A = some ⟨g, o, none⟩ ∧ g < B ∧ l[k]? = some d ∧ d.Ok w B ∧ w.cell? ⟨g, o + k * 2, none⟩ = some (.string d.name) ∧ w.cell? ⟨g, o + k * 2 + 1, none⟩ = some (.slice d.A d.pts.length d.c) := by
 obtain ⟨g, o, b, hA, hg, hb, hc⟩ := h.rc.at_ hk
 exact ⟨g, o, b, hA, hg, hb, h.ok b (List.mem_of_getElem? hb), by simpa using hc 0 _ rfl, by simpa [Nat.add_assoc] using hc 1 _ rfl⟩
theorem St.at_ {l : List St} (h : Recs stF 5 w B A l) {k : Nat} (hk : k < l.length) : ∃ g o s, A = some ⟨g, o, none⟩ ∧ g < B ∧ l[k]? = some s ∧ w.cell? ⟨g, o + k * 5, none⟩ = some (.string s.point) ∧ w.cell? ⟨g, o + k * 5 + 1, none⟩ = some (.int .i64 s.value.n) ∧ w.cell? ⟨g, o + k * 5 + 2, none⟩ = some (.int .u8 (s.value.d : Int)) ∧ w.cell? ⟨g, o + k * 5 + 3, none⟩ = some (.string s.unit) ∧ w.cell? ⟨g, o + k * 5 + 4, none⟩ = some (.int .i64 s.line) := by
 obtain ⟨g, o, b, hA, hg, hb, hc⟩ := h.at_ hk
 exact ⟨g, o, b, hA, hg, hb, by simpa using hc 0 _ rfl, by simpa [Nat.add_assoc] using hc 1 _ rfl, by simpa [Nat.add_assoc] using hc 2 _ rfl, by simpa [Nat.add_assoc] using hc 3 _ rfl, by simpa [Nat.add_assoc] using hc 4 _ rfl⟩
theorem Pt.at_cells {l : List Pt} (h : Recs ptF 9 w B A l) {k : Nat} (hk : k < l.length) : ∃ g o p, A = some ⟨g, o, none⟩ ∧ g < B ∧ l[k]? = some p ∧ w.cell? ⟨g, o + k * 9, none⟩ = some (.string p.name) ∧ w.cell? ⟨g, o + k * 9 + 1, none⟩ = some (.int .i64 p.at_) ∧ w.cell? ⟨g, o + k * 9 + 2, none⟩ = some (.int .i64 p.digits) ∧ w.cell? ⟨g, o + k * 9 + 3, none⟩ = some (.bool p.signed) ∧ w.cell? ⟨g, o + k * 9 + 4, none⟩ = some (.int .i64 p.low.n) ∧ w.cell? ⟨g, o + k * 9 + 5, none⟩ = some (.int .u8 (p.low.d : Int)) ∧ w.cell? ⟨g, o + k * 9 + 6, none⟩ = some (.int .i64 p.high.n) ∧ w.cell? ⟨g, o + k * 9 + 7, none⟩ = some (.int .u8 (p.high.d : Int)) ∧ w.cell? ⟨g, o + k * 9 + 8, none⟩ = some (.string p.unit) := by
 obtain ⟨g, o, b, hA, hg, hb, hc⟩ := h.at_ hk
 exact ⟨g, o, b, hA, hg, hb, by simpa using hc 0 _ rfl, by simpa [Nat.add_assoc] using hc 1 _ rfl, by simpa [Nat.add_assoc] using hc 2 _ rfl, by simpa [Nat.add_assoc] using hc 3 _ rfl, by simpa [Nat.add_assoc] using hc 4 _ rfl, by simpa [Nat.add_assoc] using hc 5 _ rfl, by simpa [Nat.add_assoc] using hc 6 _ rfl, by simpa [Nat.add_assoc] using hc 7 _ rfl, by simpa [Nat.add_assoc] using hc 8 _ rfl⟩
end
section
variable {H : Type} {enc : TypeId × Value → H} {w : World} {base b0 : Nat} {spare : Nat → Bool} {held : Bool} {r : Reach}
theorem trod_string {t : TypeId} {n : Nat} {v : Value} {y : DataW H × List MemPlace} (ht : Try.prog.underlying t = some .string) (h : DataW.trod enc Try.prog w base spare held n t [v] = some y) : ∃ s : ByteArray, v = .string s := by
 obtain ⟨s, hv, _⟩ := DataW.trod_string ht h
 simp at hv
 exact ⟨s, hv⟩
theorem dec_trod (n : Nat) (cs : List Value) (y : DataW H × List MemPlace) (h : DataW.trod enc Try.prog w base spare held n 41 cs = some y) : ∃ x : Dc, cs = [.int .i64 x.n, .int .u8 (x.d : Int)] ∧ x.Fit := by
 obtain ⟨hl, n, hf⟩ := trod_field Try.underlying41 h
 have hC : Try.prog.cellsOf 41 = 2 := by kernel_rfl
 rw [hC] at hl
 match cs, hl with
 | [v0, v1], _ =>
  obtain ⟨y0, h0⟩ := hf 0 _ rfl
  obtain ⟨y1, h1⟩ := hf 1 _ rfl
  obtain ⟨a0, rfl, b0, b1⟩ := trod_i64 (v := v0) Try.underlying2 h0
  obtain ⟨a1, rfl, b2⟩ := trod_nat (k := .u8) (v := v1) rfl Try.underlying5 h1
  exact ⟨⟨a0, a1⟩, rfl, b0, b1, b2⟩
theorem set_trod (n : Nat) (cs : List Value) (y : DataW H × List MemPlace) (h : DataW.trod enc Try.prog w base spare held n 48 cs = some y) : ∃ s : St, cs = stF s ∧ s.Fit := by
 obtain ⟨hl, n, hf⟩ := trod_field Try.underlying48 h
 have hC : Try.prog.cellsOf 48 = 5 := by kernel_rfl
 have hD : Try.prog.cellsOf 41 = 2 := by kernel_rfl
 rw [hC] at hl
 match cs, hl with
 | [v0, v1, v2, v3, v4], _ =>
  obtain ⟨y0, h0⟩ := hf 0 _ rfl
  obtain ⟨y1, h1⟩ := hf 1 _ rfl
  obtain ⟨y2, h2⟩ := hf 2 _ rfl
  obtain ⟨y3, h3⟩ := hf 3 _ rfl
  obtain ⟨a0, rfl⟩ := trod_string (v := v0) Try.underlying9 h0
  obtain ⟨x, e1, b1⟩ := dec_trod (cs := [v1, v2]) _ _ h1
  obtain ⟨a2, rfl⟩ := trod_string (v := v3) Try.underlying9 h2
  obtain ⟨a3, rfl, c1, c2⟩ := trod_i64 (v := v4) Try.underlying3 h3
  simp only [List.cons.injEq] at e1
  obtain ⟨rfl, rfl, _⟩ := e1
  exact ⟨⟨a0, x, a2, a3⟩, rfl, b1, c1, c2⟩
theorem part_trod (n : Nat) (cs : List Value) (y : DataW H × List MemPlace) (h : DataW.trod enc Try.prog w base spare held n 46 cs = some y) : ∃ p : Pa, cs = paF p ∧ p.Ok w w.heap.size := by
 obtain ⟨hl, n, hf⟩ := trod_field Try.underlying46 h
 have hC : Try.prog.cellsOf 46 = 3 := by kernel_rfl
 rw [hC] at hl
 match cs, hl with
 | [v0, v1, v2], _ =>
  obtain ⟨y0, h0⟩ := hf 0 _ rfl
  obtain ⟨y1, h1⟩ := hf 1 _ rfl
  obtain ⟨y2, h2⟩ := hf 2 _ rfl
  obtain ⟨a0, rfl⟩ := trod_string (v := v0) Try.underlying9 h0
  obtain ⟨a1, rfl, c1, c2⟩ := trod_i64 (v := v1) Try.underlying3 h1
  obtain ⟨A, l, c, e, q1, q2, q3, q4, q5⟩ := open_recs stF St.Fit Try.underlying44 (show Try.prog.cellsOf 48 = 5 by kernel_rfl) (by decide) set_trod (cs := [v2]) h2
  obtain rfl : v2 = .slice A l.length c := by simpa using e
  exact ⟨⟨a0, a1, l, A, c⟩, rfl, ⟨q1, q2, ⟨q3, q4, q5⟩, c1, c2⟩⟩
theorem point_trod (n : Nat) (cs : List Value) (y : DataW H × List MemPlace) (h : DataW.trod enc Try.prog w base spare held n 43 cs = some y) : ∃ p : Pt, cs = ptF p ∧ p.Fit := by
 obtain ⟨hl, n, hf⟩ := trod_field Try.underlying43 h
 have hC : Try.prog.cellsOf 43 = 9 := by kernel_rfl
 rw [hC] at hl
 match cs, hl with
 | [v0, v1, v2, v3, v4, v5, v6, v7, v8], _ =>
  obtain ⟨y0, h0⟩ := hf 0 _ rfl
  obtain ⟨y1, h1⟩ := hf 1 _ rfl
  obtain ⟨y2, h2⟩ := hf 2 _ rfl
  obtain ⟨y3, h3⟩ := hf 3 _ rfl
  obtain ⟨y4, h4⟩ := hf 4 _ rfl
  obtain ⟨y5, h5⟩ := hf 5 _ rfl
  obtain ⟨y6, h6⟩ := hf 6 _ rfl
  obtain ⟨a0, rfl⟩ := trod_string (v := v0) Try.underlying9 h0
  obtain ⟨a1, rfl, b1, b2⟩ := trod_i64 (v := v1) Try.underlying3 h1
  obtain ⟨a2, rfl, c1, c2⟩ := trod_i64 (v := v2) Try.underlying3 h2
  obtain ⟨a3, rfl⟩ := trod_truth (v := v3) Try.underlying4 h3
  obtain ⟨x, e1, d1⟩ := dec_trod (cs := [v4, v5]) _ _ h4
  obtain ⟨z, e2, d2⟩ := dec_trod (cs := [v6, v7]) _ _ h5
  obtain ⟨a6, rfl⟩ := trod_string (v := v8) Try.underlying9 h6
  simp only [List.cons.injEq] at e1 e2
  obtain ⟨rfl, rfl, _⟩ := e1
  obtain ⟨rfl, rfl, _⟩ := e2
  exact ⟨⟨a0, a1, a2, a3, x, z, a6⟩, rfl, ⟨b1, b2⟩, ⟨c1, c2⟩, d1, d2⟩
theorem device_trod (n : Nat) (cs : List Value) (y : DataW H × List MemPlace) (h : DataW.trod enc Try.prog w base spare held n 39 cs = some y) : ∃ p : Dv, cs = dvF p ∧ p.Ok w w.heap.size := by
 obtain ⟨hl, n, hf⟩ := trod_field Try.underlying39 h
 have hC : Try.prog.cellsOf 39 = 2 := by kernel_rfl
 rw [hC] at hl
 match cs, hl with
 | [v0, v1], _ =>
  obtain ⟨y0, h0⟩ := hf 0 _ rfl
  obtain ⟨y1, h1⟩ := hf 1 _ rfl
  obtain ⟨a0, rfl⟩ := trod_string (v := v0) Try.underlying9 h0
  obtain ⟨A, l, c, e, q1, q2, q3, q4, q5⟩ := open_recs ptF Pt.Fit Try.underlying37 (show Try.prog.cellsOf 43 = 9 by kernel_rfl) (by decide) point_trod (cs := [v1]) h1
  obtain rfl : v1 = .slice A l.length c := by simpa using e
  exact ⟨⟨a0, l, A, c⟩, rfl, ⟨q1, q2, ⟨q3, q4, q5⟩⟩⟩
/-- a table that came in -/
theorem open_table {v : Value} {d : DataW H} {ps : List MemPlace} (hval : Value.okWide Try.prog w r b0 23 v) (hd : DataW.Trod enc Try.prog w base spare held 23 v d ps) :
  ∃ (A : Option Addr) (l : List Dv) (c : Nat), v = .slice A l.length c ∧ Tab w w.heap.size A l ∧ Shp A l.length c := by
 obtain ⟨A, l, c, h1, h2, h3, h4, h5, h6⟩ := okWide_slice_trod dvF (fun b => b.Ok w w.heap.size) Try.underlying23 (show Try.prog.cellsOf 39 = 2 by kernel_rfl) (by decide) device_trod hval hd
 exact ⟨A, l, c, h1, ⟨h2, h3⟩, ⟨h4, h5, h6⟩⟩
/-- a recipe that came in -/
theorem open_recipe {v : Value} {d : DataW H} {ps : List MemPlace} (hval : Value.okWide Try.prog w r b0 26 v) (hd : DataW.Trod enc Try.prog w base spare held 26 v d ps) :
  ∃ (nm : ByteArray) (A : Option Addr) (l : List Pa) (c : Nat), v = .agg #[.string nm, .slice A l.length c] ∧ Pas w w.heap.size A l ∧ Shp A l.length c := by
 obtain ⟨cs, rfl, _⟩ := okWide_struct Try.underlying26 hval
 obtain ⟨fuel, hf⟩ := hd
 obtain ⟨hl, n, hf⟩ := trod_field Try.underlying26 hf
 have hC : Try.prog.cellsOf 26 = 2 := by kernel_rfl
 rw [hC] at hl
 obtain ⟨vs⟩ := cs
 match vs, hl, hf with
 | [v0, v1], _, hf =>
  obtain ⟨y0, h0⟩ := hf 0 _ rfl
  obtain ⟨y1, h1⟩ := hf 1 _ rfl
  obtain ⟨a0, rfl⟩ := trod_string (v := v0) Try.underlying9 h0
  obtain ⟨A, l, c, e, q1, q2, q3, q4, q5⟩ := open_recs paF (fun p => p.Ok w w.heap.size) Try.underlying24 (show Try.prog.cellsOf 46 = 3 by kernel_rfl) (by decide) part_trod (cs := [v1]) h1
  obtain rfl : v1 = .slice A l.length c := by simpa using e
  exact ⟨a0, A, l, c, rfl, ⟨q1, q2⟩, ⟨q3, q4, q5⟩⟩
theorem open_text {v : Value} {d : DataW H} {ps : List MemPlace} (hval : Value.okWide Try.prog w r b0 9 v) (hd : DataW.Trod enc Try.prog w base spare held 9 v d ps) : ∃ s : ByteArray, v = .string s := by
 exact okWide_string Try.underlying9 hval
theorem open_dec {v : Value} {d : DataW H} {ps : List MemPlace} (hval : Value.okWide Try.prog w r b0 41 v) (hd : DataW.Trod enc Try.prog w base spare held 41 v d ps) : ∃ x : Dc, v = dcV x.n x.d ∧ x.Fit := by
 obtain ⟨cs, rfl, _⟩ := okWide_struct Try.underlying41 hval
 obtain ⟨fuel, hf⟩ := hd
 obtain ⟨x, hx, hok⟩ := dec_trod _ _ _ hf
 obtain ⟨vs⟩ := cs
 replace hx : vs = _ := hx
 subst hx
 exact ⟨x, rfl, hok⟩
end
end Go.Proofs.Ythhokpaidekmnaa
