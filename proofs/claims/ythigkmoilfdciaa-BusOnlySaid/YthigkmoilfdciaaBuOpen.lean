/- Layer 11: parcels, fates and operations that came in. -/
import Derived.Test.YthigkmoilfdciaaBuSame
namespace Go.Proofs.Ythigkmoilfdciaa
open Go.ChangeShapes Go.WideShapes Go.ChangeAt Go.RowKit Go.Deep
set_option linter.unusedVariables false
/-- a parcel that can be read: its bytes lie below block B -/
structure PcOk (w : World) (B : Nat) (x : Pc) : Prop where
  sq : Sq byw w B x.A x.p.b
  u : ∀ y ∈ x.p.b, y < 256
  nl : x.A = none → x.c = 0
  ln : x.p.b.length ≤ x.c
  cap : x.c ≤ 9223372036854775807
  s1 : -9223372036854775808 ≤ x.p.s
  s2 : x.p.s ≤ 9223372036854775807
/-- an operation of the chapter -/
structure Bop where
  tick : Bool
  p : Pc
  f : Fa
abbrev bopF (o : Bop) : List Value := [.bool o.tick, .int .i64 o.p.p.s, .bool o.p.p.up, .slice o.p.A o.p.p.b.length o.p.c, .bool o.f.lost, .bool o.f.twice, .int .u8 (o.f.wait : Int), .int .u8 (o.f.again : Int), .int .u16 (o.f.at_ : Int), .int .u16 (o.f.turns : Int)]
structure BopOk (w : World) (B : Nat) (o : Bop) : Prop where
  p : PcOk w B o.p
  f : o.f.Fit
section
variable {w w' : World} {B B' : Nat} {x : Pc} {o : Bop} {l : List Bop} {A : Option Addr}
theorem PcOk.below (h : PcOk w B x) (k : Below B w w') : PcOk w' B x := ⟨h.sq.below k, h.u, h.nl, h.ln, h.cap, h.s1, h.s2⟩
theorem PcOk.more (h : PcOk w B x) (hB : B ≤ B') : PcOk w B' x := ⟨h.sq.more hB, h.u, h.nl, h.ln, h.cap, h.s1, h.s2⟩
theorem PcOk.to (h : PcOk w w.heap.size x) (k : Below w.heap.size w w') : PcOk w' w'.heap.size x := (h.below k).more k.size
theorem BopOk.below (h : BopOk w B o) (k : Below B w w') : BopOk w' B o := ⟨h.p.below k, h.f⟩
theorem BopOk.more (h : BopOk w B o) (k : B ≤ B') : BopOk w B' o := ⟨h.p.more k, h.f⟩
/-- a row of operations -/
structure Bops (w : World) (B : Nat) (A : Option Addr) (l : List Bop) : Prop where
  rc : Recs bopF 10 w B A l
  ok : ∀ b ∈ l, BopOk w B b
theorem Bops.below (h : Bops w B A l) (k : Below B w w') : Bops w' B A l := ⟨h.rc.below k, fun b hb => (h.ok b hb).below k⟩
theorem Bops.more (h : Bops w B A l) (hB : B ≤ B') : Bops w B' A l := ⟨h.rc.more hB, fun b hb => (h.ok b hb).more hB⟩
theorem Bops.to (h : Bops w w.heap.size A l) (k : Below w.heap.size w w') : Bops w' w'.heap.size A l := (h.below k).more k.size
theorem Bops.take (h : Bops w B A l) (n : Nat) : Bops w B A (l.take n) := ⟨h.rc.take n, fun b hb => h.ok b (List.mem_of_mem_take hb)⟩
end
section
variable {H : Type} {enc : TypeId × Value → H} {w : World} {base b0 : Nat} {spare : Nat → Bool} {held : Bool} {r : Reach}
theorem parcel_trod (n : Nat) (cs : List Value) (y : DataW H × List MemPlace) (h : DataW.trod enc Try.prog w base spare held n 36 cs = some y) : ∃ x : Pc, cs = pcF x ∧ PcOk w w.heap.size x := by
  obtain ⟨hl, n, hf⟩ := trod_field Try.underlying36 h
  have hC : Try.prog.cellsOf 36 = 3 := by kernel_rfl
  rw [hC] at hl
  match cs, hl with
  | [v0, v1, v2], _ =>
    obtain ⟨y0, h0⟩ := hf 0 _ rfl
    obtain ⟨y1, h1⟩ := hf 1 _ rfl
    obtain ⟨y2, h2⟩ := hf 2 _ rfl
    obtain ⟨a0, rfl, b0, b0'⟩ := trod_i64 (v := v0) Try.underlying3 h0
    obtain ⟨a1, rfl⟩ := trod_truth (v := v1) Try.underlying4 h1
    obtain ⟨A4, l4, c4, e4, q4⟩ := bytes_trod (cs := [v2]) Try.underlying34 Try.underlying5 (by kernel_rfl) _ _ h2
    obtain rfl : v2 = .slice A4 l4.length c4 := by simpa using e4
    exact ⟨⟨⟨a0, a1, l4⟩, A4, c4⟩, rfl, q4.sq, q4.u, q4.nl, q4.ln, q4.cap, b0, b0'⟩
theorem fate_trod (n : Nat) (cs : List Value) (y : DataW H × List MemPlace) (h : DataW.trod enc Try.prog w base spare held n 39 cs = some y) : ∃ x : Fa, cs = faF x ∧ x.Fit := by
  obtain ⟨hl, n, hf⟩ := trod_field Try.underlying39 h
  have hC : Try.prog.cellsOf 39 = 6 := by kernel_rfl
  rw [hC] at hl
  match cs, hl with
  | [v0, v1, v2, v3, v4, v5], _ =>
    obtain ⟨y0, h0⟩ := hf 0 _ rfl
    obtain ⟨y1, h1⟩ := hf 1 _ rfl
    obtain ⟨y2, h2⟩ := hf 2 _ rfl
    obtain ⟨y3, h3⟩ := hf 3 _ rfl
    obtain ⟨y4, h4⟩ := hf 4 _ rfl
    obtain ⟨y5, h5⟩ := hf 5 _ rfl
    obtain ⟨a0, rfl⟩ := trod_truth (v := v0) Try.underlying4 h0
    obtain ⟨a1, rfl⟩ := trod_truth (v := v1) Try.underlying4 h1
    obtain ⟨a2, rfl, b2⟩ := trod_nat (k := .u8) (v := v2) rfl Try.underlying5 h2
    obtain ⟨a3, rfl, b3⟩ := trod_nat (k := .u8) (v := v3) rfl Try.underlying5 h3
    obtain ⟨a4, rfl, b4⟩ := trod_nat (k := .u16) (v := v4) rfl Try.underlying37 h4
    obtain ⟨a5, rfl, b5⟩ := trod_nat (k := .u16) (v := v5) rfl Try.underlying37 h5
    exact ⟨⟨a0, a1, a2, a3, a4, a5⟩, rfl, ⟨b2, b3, b4, b5⟩⟩
theorem open_parcel {v : Value} {d : DataW H} {ps : List MemPlace} (hval : Value.okWide Try.prog w r b0 36 v) (hd : DataW.Trod enc Try.prog w base spare held 36 v d ps) :
    ∃ x : Pc, v = .agg (pcF x).toArray ∧ PcOk w w.heap.size x := by
  obtain ⟨cs, rfl, _⟩ := okWide_struct Try.underlying36 hval
  obtain ⟨fuel, hf⟩ := hd
  obtain ⟨x, hx, hok⟩ := parcel_trod _ _ _ hf
  exact ⟨x, by rw [← hx]; rfl, hok⟩
theorem open_fate {v : Value} {d : DataW H} {ps : List MemPlace} (hval : Value.okWide Try.prog w r b0 39 v) (hd : DataW.Trod enc Try.prog w base spare held 39 v d ps) :
    ∃ x : Fa, v = .agg (faF x).toArray ∧ x.Fit := by
  obtain ⟨cs, rfl, _⟩ := okWide_struct Try.underlying39 hval
  obtain ⟨fuel, hf⟩ := hd
  obtain ⟨x, hx, hok⟩ := fate_trod _ _ _ hf
  exact ⟨x, by rw [← hx]; rfl, hok⟩
theorem bop_trod (n : Nat) (cs : List Value) (y : DataW H × List MemPlace) (h : DataW.trod enc Try.prog w base spare held n 41 cs = some y) : ∃ x : Bop, cs = bopF x ∧ BopOk w w.heap.size x := by
  obtain ⟨hl, n, hf⟩ := trod_field Try.underlying41 h
  have hC : Try.prog.cellsOf 41 = 10 := by kernel_rfl
  rw [hC] at hl
  match cs, hl with
  | [v0, v1, v2, v3, v4, v5, v6, v7, v8, v9], _ =>
    obtain ⟨y0, h0⟩ := hf 0 _ rfl
    obtain ⟨y1, h1⟩ := hf 1 _ rfl
    obtain ⟨y2, h2⟩ := hf 2 _ rfl
    obtain ⟨a0, rfl⟩ := trod_truth (v := v0) Try.underlying4 h0
    obtain ⟨x, hx, hok⟩ := parcel_trod _ [v1, v2, v3] _ h1
    obtain ⟨f, hf, hfit⟩ := fate_trod _ [v4, v5, v6, v7, v8, v9] _ h2
    refine ⟨⟨a0, x, f⟩, ?_, hok, hfit⟩
    have : Value.bool a0 :: ([v1, v2, v3] ++ [v4, v5, v6, v7, v8, v9]) = bopF ⟨a0, x, f⟩ := by rw [hx, hf]; rfl
    exact this
theorem open_bops {v : Value} {d : DataW H} {ps : List MemPlace} (hval : Value.okWide Try.prog w r b0 23 v) (hd : DataW.Trod enc Try.prog w base spare held 23 v d ps) :
    ∃ (A : Option Addr) (l : List Bop) (c : Nat), v = .slice A l.length c ∧ Bops w w.heap.size A l ∧ l.length ≤ c ∧ c ≤ 9223372036854775807 ∧ (A = none → c = 0) := by
  obtain ⟨A, l, c, h1, h2, h3, h4, h5, h6⟩ := okWide_slice_trod bopF (fun b => BopOk w w.heap.size b) Try.underlying23 (show Try.prog.cellsOf 41 = 10 by kernel_rfl) (by decide) bop_trod hval hd
  exact ⟨A, l, c, h1, ⟨h2, h3⟩, h4, h5, h6⟩
end
end Go.Proofs.Ythigkmoilfdciaa
